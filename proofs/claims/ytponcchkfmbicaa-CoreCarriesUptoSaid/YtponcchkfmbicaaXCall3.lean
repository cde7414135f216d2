/-
  Ax, text 15: calls that are handed pointers.
-/
import Derived.Test.YtponcchkfmbicaaXCall2
namespace Go.Ax
set_option linter.unusedSectionVars false
open Go.RowKit

variable [Gls]
variable {P : Program} {C C' : Ctx} {w w' : World} {a : Act} {env : Env} {H H' : List Blk} {cf : CallF} {av : AV} {o : Oper} {xo : XOp} {Hp : Nat → Option Blk} {wr : List Nat}

theorem shown_get (R os : List Nat) (H : List Blk) (j : Nat) : (shown R os H)[j]? = (R[j]?).map fun i => ((freeze os H).getD i .dead).ren fun i => R.idxOf i := by
  simp [shown]
theorem shown_length (R os : List Nat) (H : List Blk) : (shown R os H).length = R.length := by simp [shown]

theorem merge_get_old {R : List Nat} {H H1 : List Blk} {i : Nat} (hi : i < H.length) : (merge R H H1)[i]? = (H[i]?).map fun b => if R.contains i then (H1.getD (R.idxOf i) .dead).ren (backTo R H.length) else b := by
  unfold merge
  rw [List.getElem?_append_left (by simpa using hi)]
  simp [List.getElem?_mapIdx]
theorem merge_get_new {R : List Nat} {H H1 : List Blk} {i : Nat} (hi : H.length ≤ i) : (merge R H H1)[i]? = (H1[R.length + (i - H.length)]?).map (Blk.ren (backTo R H.length)) := by
  unfold merge
  rw [List.getElem?_append_right (by simpa using hi)]
  simp only [List.length_mapIdx, List.getElem?_map, List.getElem?_drop]
theorem merge_length {R : List Nat} {H H1 : List Blk} : (merge R H H1).length = H.length + (H1.length - R.length) := by
  unfold merge; simp

theorem reach_nodup (H : List Blk) : ∀ (f : Nat) (l seen : List Nat), seen.Nodup → (reach H f l seen).Nodup
  | 0, _, _, h => h
  | _ + 1, [], _, h => h
  | f + 1, id :: r, seen, h => by
    simp only [reach]
    split
    · exact reach_nodup H f r seen h
    · rename_i hn
      refine reach_nodup H f _ _ (List.nodup_append.2 ⟨h, by simp, fun x hx y hy e => ?_⟩)
      simp only [List.mem_singleton] at hy
      subst hy; subst e
      exact hn (List.contains_iff_mem.2 hx)

theorem RB.ren {f : Nat → Nat} {i j : Nat} {b : Blk} (h : RB C w i b) (hρ : C'.ρ j = C.ρ i) (hs : C'.sz j = C.sz i) (hF : C'.Fz = C.Fz) (hr : ∀ r ∈ b.refs, C.D r → Ren C C' w w f r) : RB C' w j (b.ren f) := by
  have hF' : ∀ k, C.Fz k → C'.Fz k := fun k h => by rw [hF]; exact h
  cases h with
  | box cs bb c t hρ' hb hn hFb h h1 =>
    have hRL : RL C w c.toList cs := ⟨by simpa using hn, fun j u x hu hx => h j u x (by simpa using hu) hx⟩
    have := RL.rename hF' (fun _ _ => rfl) cs c.toList hRL hr
    refine .box _ bb c t (hρ.trans hρ') hb (by simpa using this.1) (by rw [hF]; exact hFb) (fun j v av hv hav => this.2 j v av (by simpa using hv) hav) h1
  | arr0 e sz fl fz hρ' hz hz0 => exact .arr0 e sz fl fz (hρ.trans hρ') (hs.trans hz) hz0
  | arr e sz fl fz xs g cap c hρ' hz hz0 hb hc hl hcap hFb hsz hfl h =>
    exact .arr e sz fl fz xs g cap c (hρ.trans hρ') (hs.trans hz) hz0 hb hc hl hcap (by rw [hF]; exact hFb) hsz hfl (fun k d hk => let ⟨v, a, b, c⟩ := h k d hk; ⟨v, a, b.keeps hF' (fun _ _ => rfl), c⟩)
  | mp l b es ck h1 hbk hFz hst hsz hl hk hs' =>
    exact .mp l b es ck (hρ.trans h1) hbk (by rw [hF]; exact hFz) hst hsz hl (fun x hx => let ⟨n, a, b, d, e, f⟩ := hk x hx; ⟨n, a, b, d, e, f.keeps hF' (fun _ _ => rfl)⟩) hs'
  | dead => exact .dead

/-- The caller's context behind a call with pointers. -/
def ctxCall3 (C C1 : Ctx) (k len len1 : Nat) : Ctx where
  ρ i := if len ≤ i ∧ i < len + (len1 - k) then C1.ρ (k + (i - len)) else C.ρ i
  sz i := if len ≤ i ∧ i < len + (len1 - k) then C1.sz (k + (i - len)) else C.sz i
  D i := C.D i ∨ (len ≤ i ∧ i < len + (len1 - k))
  Fz := C1.Fz
/-- The callee's context. -/
def ctxShown (C : Ctx) (R : List Nat) (F : Nat → Prop) : Ctx where
  ρ j := match R[j]? with
    | some i => C.ρ i
    | none => .none
  sz j := match R[j]? with
    | some i => C.sz i
    | none => 0
  D j := j < R.length
  Fz := F

theorem Lies.freezeIf {b : Blk} {l : Loc} {k : Nat} {c : Bool} : Lies (if c then Ax.freeze1 b else b) l k ↔ Lies b l k := by
  cases c
  · simp
  · simpa using Lies.freeze1
theorem Writes.freezeIf {b : Blk} {l : Loc} {k : Nat} {c : Bool} (h : Writes (if c then freeze1 b else b) l k) : Writes b l k := by
  cases c
  · simpa using h
  · cases b <;> cases l <;> simp_all [freeze1, Writes]
theorem Writes.ren {b : Blk} {f : Nat → Nat} {l : Loc} {k : Nat} : Writes (b.ren f) l k ↔ Writes b l k := by
  cases b <;> cases l <;> simp [Blk.ren, Writes]

mutual
theorem strip_refs : ∀ (x x' : AV), x.strip H = some x' → ∀ i ∈ x'.refs, i ∈ x.refs
  | .own id off len, x', h, i, hi => by
    simp only [AV.strip] at h
    split at h <;> first | (cases h; done) | skip
    split at h <;> first | (cases h; done) | skip
    injection h with h; subst h
    simp [AV.refs] at hi
  | .agg cs, x', h, i, hi => by
    simp only [AV.strip, Option.map_eq_some_iff] at h
    obtain ⟨cs', hc, rfl⟩ := h
    simp only [AV.refs]
    exact strip_refsL cs cs' hc i (mkAggV_refs i hi)
  | .ifc t x, x', h, i, hi => by
    simp only [AV.strip, Option.map_eq_some_iff] at h
    obtain ⟨y, hy, rfl⟩ := h
    exact strip_refs x y hy i (by simpa [AV.refs] using hi)
  | .fn g a c, x', h, i, hi => by
    simp only [AV.strip] at h
    split at h <;> first | (cases h; done) | skip
    rename_i a' ha
    simp only [Option.map_eq_some_iff] at h
    obtain ⟨c', hc, rfl⟩ := h
    simp only [AV.refs, List.mem_append] at hi ⊢
    exact hi.imp (strip_refsL a a' ha i) (strip_refsL c c' hc i)
  | .tup _, x', h, i, hi => by simp [AV.strip] at h
  | .top, x', h, i, hi => by simp [AV.strip] at h
  | .dat _, x', h, i, hi => by simp only [AV.strip, Option.some.injEq] at h; subst h; exact hi
  | .ptr _ _, x', h, i, hi => by simp only [AV.strip, Option.some.injEq] at h; subst h; exact hi
  | .eptr _ _ _, x', h, i, hi => by simp only [AV.strip, Option.some.injEq] at h; subst h; exact hi
  | .dptr _, x', h, i, hi => by simp only [AV.strip, Option.some.injEq] at h; subst h; exact hi
  | .mref _, x', h, i, hi => by simp only [AV.strip, Option.some.injEq] at h; subst h; exact hi
  | .nil _ _ _, x', h, i, hi => by simp only [AV.strip, Option.some.injEq] at h; subst h; simp [AV.refs] at hi
theorem strip_refsL : ∀ (l l' : List AV), AV.stripL H l = some l' → ∀ i ∈ AV.refsL l', i ∈ AV.refsL l
  | [], l', h, i, hi => by simp only [AV.stripL, Option.some.injEq] at h; subst h; exact hi
  | x :: l, l', h, i, hi => by
    simp only [AV.stripL] at h
    split at h <;> first | (cases h; done) | skip
    rename_i d hd
    split at h <;> first | (cases h; done) | skip
    rename_i ds hds
    injection h with h; subst h
    simp only [AV.refsL, List.mem_append] at hi ⊢
    exact hi.imp (strip_refs x d hd i) (strip_refsL l ds hds i)
end

theorem ptrCall_sound (hcf : CFSound P cf) {g : Nat} {args : List AV} {r : AV} {H1 : List Blk} {args' : List AV} {R : List Nat} (hnd : R.Nodup) (hstrip : AV.stripL H args = some args')
    (hr : cf g (AV.renL (fun i => R.idxOf i) args') (shown R (AV.ownsL args) H) = some (r, H1))
    {us : List Value} (hus : RL C w us args) (hG : GlR C w) (hH : RH C w Hp) (hHp : ∀ i ∈ R, Hp i = H[i]?) (hclosed : closedUnder H R = true) (hrefs : ∀ i ∈ AV.refsL args, i ∈ R) (hRlt : ∀ i ∈ R, i < H.length)
    (hnew : ∀ i, H.length ≤ i → i < (merge R H H1).length → ¬ C.D i) :
    Calls P g us.toArray w fun e w' => ∃ v C', e = .returned v ∧ RV C' w' v (r.ren (backTo R H.length)) ∧ Local C C' w w' H (merge R H H1) Hp R := by
  -- the callee's context, under the caller's numbers first
  let os := AV.ownsL args
  let F : Nat → Prop := fun k => C.Fz k ∨ ∃ i ∈ os, ∃ b, H[i]? = some b ∧ Lies b (C.ρ i) k
  let Co : Ctx := { ρ := C.ρ, sz := C.sz, D := fun i => i < H.length, Fz := F }
  let Cc : Ctx := ctxShown C R F
  let f : Nat → Nat := fun i => R.idxOf i
  have howns := stripL_owns args args' hstrip
  have hosR : ∀ i ∈ os, i ∈ R := fun i hi => hrefs i (ownsL_refs args i hi)
  have hHpo : ∀ i ∈ os, Hp i = H[i]? := fun i hi => hHp i (hosR i hi)
  have hDR : ∀ i ∈ R, C.D i := fun i hi => hH.dom i _ ((hHp i hi).trans (List.getElem?_eq_getElem (hRlt i hi)))
  have hcF : ∀ k, C.Fz k → F k := fun _ h => .inl h
  have hidx : ∀ i ∈ R, R[f i]? = some i := fun i hi => by
    have hx := List.idxOf_lt_length_of_mem hi
    rw [List.getElem?_eq_getElem hx, List.getElem_idxOf]
  have hidx2 : ∀ (j i : Nat), R[j]? = some i → f i = j := fun j i h => by
    have h2 := hidx i (List.mem_of_getElem? h)
    obtain ⟨l1, e1⟩ := List.getElem?_eq_some_iff.1 h
    obtain ⟨l2, e2⟩ := List.getElem?_eq_some_iff.1 h2
    exact (List.getElem_inj hnd).1 (e2.trans e1.symm)
  have hrenO : ∀ i ∈ R, Ren Co Cc w w f i := fun i hi => by
    have h2 := hidx i hi
    refine ⟨(List.getElem?_eq_some_iff.1 h2).1, ?_, ?_⟩
    · show (match R[f i]? with | some i => C.ρ i | none => .none) = C.ρ i
      rw [h2]
    · show (match R[f i]? with | some i => C.sz i | none => 0) = C.sz i
      rw [h2]
  have hstripO : RL Co w us args' := stripL_sound (C' := Co) hH hcF args args' hstrip (fun i hi => hHp i (hrefs i hi)) (fun i hi b k hb hk => .inr ⟨i, hi, b, hb, hk⟩)
    (fun i hi hD => ⟨hRlt i (hrefs i (by
      have : ∀ (l : List AV), ∀ i ∈ AV.ptrsL l, i ∈ AV.refsL l := ptrsL_refs
      exact this args i hi)), rfl, rfl⟩) us hus
  have hargsR : ∀ i ∈ AV.refsL args', i ∈ R := fun i hi => hrefs i (strip_refsL args args' hstrip i hi)
  have hstripR : RL Cc w us (AV.renL f args') := RL.rename (C := Co) (C' := Cc) (fun _ h => h) (fun _ _ => rfl) args' us hstripO (fun i hi _ => hrenO i (hargsR i hi))
  have hcl : ∀ k, F k → k < w.heap.size := by
    rintro k (h | ⟨i, hi, b, hb, hk⟩)
    · exact hH.lt k h
    · exact (hH.blk i b ((hHpo i hi).trans hb)).lies_lt hk
  have hmoveAV : ∀ (x : AV) (v : Value), RV C w v x → (∀ i ∈ x.refs, i ∈ R) → RV Co w v x := fun x v hv hx => hv.move hcF (fun _ _ => rfl) (fun i hi _ => ⟨hRlt i (hx i hi), rfl, rfl⟩)
  -- the blocks, frozen, under the caller's numbers
  have hblkO : ∀ i ∈ R, ∀ b0, H[i]? = some b0 → (∀ j ∈ b0.refs, j ∈ R) ∧ RB Co w i (if os.contains i then freeze1 b0 else b0) := fun i hi b0 h0 => by
    have hB := hH.blk i b0 ((hHp i hi).trans h0)
    have hbr : ∀ j ∈ b0.refs, j ∈ R := fun j hj => by
      have := List.all_eq_true.1 hclosed i hi
      rw [List.all_eq_true] at this
      have := this j (by simp only [blkRefs, h0]; exact hj)
      exact List.contains_iff_mem.1 this
    refine ⟨hbr, ?_⟩
    have hFnot : ∀ k, Lies b0 (C.ρ i) k → i ∉ os → (F k ↔ C.Fz k) := fun k hk hn => by
      constructor
      · rintro (h | ⟨j, hj, b2, hb2, hl2⟩)
        · exact h
        · have := hH.inj i j b0 b2 k ((hHp i hi).trans h0) ((hHpo j hj).trans hb2) hk hl2
          exact absurd (this ▸ hj) hn
      · exact hcF k
    cases hB with
    | box cs bb c t hρ hbk hn hF h h1 =>
      have hno : i ∉ os := fun ho => by
        obtain ⟨e, sz, fl, fz, xs, h2⟩ := howns i ho
        rw [h0] at h2; cases h2
      have : (if os.contains i = true then freeze1 (Blk.box cs) else Blk.box cs) = .box cs := by split <;> rfl
      rw [this]
      refine .box cs bb c t hρ hbk hn (fun hf => hF ((hFnot bb (by rw [hρ]; rfl) hno).1 hf)) (fun j v av hv hav => hmoveAV av v (h j v av hv hav) (fun m hm => hbr m ?_)) h1
      simp only [Blk.refs]
      exact refsL_mem (List.mem_of_getElem? hav) hm
    | arr0 e sz fl fz hρ hz hz0 =>
      split
      · exact .arr0 e sz fl true hρ hz hz0
      · exact .arr0 e sz fl fz hρ hz hz0
    | arr e sz fl fz xs g' cap c hρ hz hz0 hbk hc hl hcap hF hs hfl hcell =>
      have hcell' : ∀ (k : Nat) (d : Dat), (flatten xs)[k]? = some d → ∃ v : Value, c[k]? = some v ∧ RD F w v d ∧ v.oneCell' = true := fun k d hk => let ⟨v, a, b, c⟩ := hcell k d hk; ⟨v, a, b.keeps hcF (fun _ _ => rfl), c⟩
      by_cases ho : i ∈ os
      · rw [if_pos (List.contains_iff_mem.2 ho)]
        exact .arr e sz fl true xs g' cap c hρ hz hz0 hbk hc hl hcap ⟨fun _ => rfl, fun _ => .inr ⟨i, ho, _, h0, by rw [hρ]; rfl⟩⟩ hs hfl hcell'
      · rw [if_neg (fun h => ho (List.contains_iff_mem.1 h))]
        exact .arr e sz fl fz xs g' cap c hρ hz hz0 hbk hc hl hcap ((hFnot g' (by rw [hρ]; rfl) ho).trans hF) hs hfl hcell'
    | mp l bb es ck hρ hbk hF hst hsz hl hk hs =>
      have hno : i ∉ os := fun ho => by
        obtain ⟨e, sz, fl, fz, xs, h2⟩ := howns i ho
        rw [h0] at h2; cases h2
      have : (if os.contains i = true then freeze1 (Blk.mp l) else Blk.mp l) = .mp l := by split <;> rfl
      rw [this]
      exact .mp l bb es ck hρ hbk (fun hf => hF ((hFnot bb (by rw [hρ]; rfl) hno).1 hf)) hst hsz hl (fun x hx => let ⟨n, a, b, d, e, f⟩ := hk x hx; ⟨n, a, b, d, e, f.keeps hcF (fun _ _ => rfl)⟩) hs
    | dead => split <;> exact .dead
  -- the callee's heap
  let Hc := shown R os H
  have hHc : ∀ j b, at_ Hc j = some b → ∃ i b0, R[j]? = some i ∧ i ∈ R ∧ H[i]? = some b0 ∧ b = (if os.contains i then freeze1 b0 else b0).ren f := fun j b hb => by
    simp only [at_, Hc, shown_get, Option.map_eq_some_iff] at hb
    obtain ⟨i, hi, rfl⟩ := hb
    have hiR := List.mem_of_getElem? hi
    have hlt := hRlt i hiR
    refine ⟨i, H[i], hi, hiR, List.getElem?_eq_getElem hlt, ?_⟩
    rw [List.getD_eq_getElem?_getD, freeze_get, List.getElem?_eq_getElem hlt]; rfl
  have hρc : ∀ j i, R[j]? = some i → Cc.ρ j = C.ρ i := fun j i h => by
    show (match R[j]? with | some i => C.ρ i | none => .none) = C.ρ i
    rw [h]
  have hszc : ∀ j i, R[j]? = some i → Cc.sz j = C.sz i := fun j i h => by
    show (match R[j]? with | some i => C.sz i | none => 0) = C.sz i
    rw [h]
  have hfr : ∀ {b0 : Blk} {c : Bool}, (if c then freeze1 b0 else b0).refs = b0.refs := fun {b0 c} => by
    cases c
    · rfl
    · cases b0 <;> rfl
  have hRHc : RH Cc w (at_ Hc) := by
    refine ⟨fun j b hb => ?_, fun j b hb => ?_, fun j j' b b' k hj hj' hlj hlj' => ?_, hcl⟩
    · obtain ⟨i, b0, hi, _⟩ := hHc j b hb
      exact (List.getElem?_eq_some_iff.1 hi).1
    · obtain ⟨i, b0, hi, hiR, h0, rfl⟩ := hHc j b hb
      obtain ⟨hbr, hB⟩ := hblkO i hiR b0 h0
      exact hB.ren (C' := Cc) (hρc j i hi) (hszc j i hi) rfl (fun m hm _ => hrenO m (hbr m (by rwa [hfr] at hm)))
    · obtain ⟨i, b0, hi, hiR, h0, rfl⟩ := hHc j b hj
      obtain ⟨i', b1, hi', hiR', h1, rfl⟩ := hHc j' b' hj'
      rw [hρc j i hi] at hlj
      rw [hρc j' i' hi'] at hlj'
      have := hH.inj i i' b0 b1 k ((hHp i hiR).trans h0) ((hHp i' hiR').trans h1) (Lies.freezeIf.1 (Lies.ren.1 hlj)) (Lies.freezeIf.1 (Lies.ren.1 hlj'))
      subst this
      exact (hidx2 j i hi).symm.trans (hidx2 j' i hi')
  have hlenc : Hc.length = R.length := shown_length R os H
  have hcall := hcf.calls g _ Hc r H1 hr Cc w us hstripR hRHc (fun i => by rw [hlenc]; exact Iff.rfl) (hG.mono hcF (fun _ _ => rfl))
  refine hcall.mono fun e w' hpost => ?_
  obtain ⟨v, C1, rfl, hV, L1⟩ := hpost
  rw [hlenc] at L1
  have hlen1 : R.length ≤ H1.length := by have := L1.len; omega
  have hD1 : ∀ i, C1.D i ↔ i < H1.length := fun i => by
    rw [L1.dom i, hlenc]
    show i < R.length ∨ _ ↔ _
    omega
  have hRH1 : RH C1 w' (at_ H1) := by
    have := L1.heap hRHc
    have e : upd (at_ Hc) Hc H1 (List.range R.length) = at_ H1 := by
      funext i
      unfold upd
      split
      · rfl
      · rename_i h
        have h1 : ¬ i < R.length := fun hlt => h (.inl (List.mem_range.2 hlt))
        have h2 : ¬ i < H1.length := fun hlt => h (.inr ⟨by omega, hlt⟩)
        simp only [at_]
        rw [List.getElem?_eq_none (by omega), List.getElem?_eq_none (by omega)]
    rwa [e] at this
  let C' := ctxCall3 C C1 R.length H.length H1.length
  let bk := backTo R H.length
  -- from the callee's numbers to the caller's
  have hren1 : ∀ j, C1.D j → Ren C1 C' w' w' bk j := fun j hD => by
    have hlt := (hD1 j).1 hD
    by_cases hj : j < R.length
    · have hi : R[j]? = some R[j] := List.getElem?_eq_getElem hj
      have hb : bk j = R[j] := by show (if j < R.length then R.getD j 0 else _) = _; rw [if_pos hj]; simp [List.getD, hj]
      have hiR := List.getElem_mem (l := R) hj
      have hlt2 := hRlt _ hiR
      refine ⟨?_, ?_, ?_⟩ <;> rw [hb]
      · exact .inl (hDR _ hiR)
      · show (if H.length ≤ R[j] ∧ _ then _ else C.ρ R[j]) = _
        rw [if_neg (by omega), ← hρc j _ hi]
        exact (L1.keeps.rho j hj).symm
      · show (if H.length ≤ R[j] ∧ _ then _ else C.sz R[j]) = _
        rw [if_neg (by omega), ← hszc j _ hi]
        exact (L1.keeps.siz j hj).symm
    · have hb : bk j = H.length + (j - R.length) := if_neg hj
      refine ⟨?_, ?_, ?_⟩ <;> rw [hb]
      · exact .inr ⟨by omega, by omega⟩
      · show (if _ ∧ _ then C1.ρ (R.length + (H.length + (j - R.length) - H.length)) else _) = _
        rw [if_pos ⟨by omega, by omega⟩]; congr 1; omega
      · show (if _ ∧ _ then C1.sz (R.length + (H.length + (j - R.length) - H.length)) else _) = _
        rw [if_pos ⟨by omega, by omega⟩]; congr 1; omega
  have hlenM : (merge R H H1).length = H.length + (H1.length - R.length) := merge_length
  -- what the callee wrote, in the caller's words
  have hwr : ∀ k, (∃ i ∈ List.range R.length, ∃ b, at_ Hc i = some b ∧ Writes b (Cc.ρ i) k) → ∃ i ∈ R, ∃ b, Hp i = some b ∧ Writes b (C.ρ i) k := by
    rintro k ⟨j, _, b, hb, hw⟩
    obtain ⟨i, b0, hi, hiR, h0, rfl⟩ := hHc j b hb
    rw [hρc j i hi] at hw
    exact ⟨i, hiR, b0, (hHp i hiR).trans h0, (Writes.ren.1 hw).freezeIf⟩
  have hli : ∀ k, (∃ i ∈ List.range R.length, ∃ b, at_ Hc i = some b ∧ Lies b (Cc.ρ i) k) → ∃ i ∈ R, ∃ b, Hp i = some b ∧ Lies b (C.ρ i) k := by
    rintro k ⟨j, _, b, hb, hw⟩
    obtain ⟨i, b0, hi, hiR, h0, rfl⟩ := hHc j b hb
    rw [hρc j i hi] at hw
    exact ⟨i, hiR, b0, (hHp i hiR).trans h0, Lies.freezeIf.1 (Lies.ren.1 hw)⟩
  have getT : ∀ i b, Tch H (merge R H H1) R i → (merge R H H1)[i]? = some b → ∃ j b1, j < H1.length ∧ H1[j]? = some b1 ∧ b = b1.ren bk ∧ bk j = i := fun i b ht hb => by
    rcases ht with hi | ⟨h1, h2⟩
    · have hlt := hRlt i hi
      rw [merge_get_old hlt, List.getElem?_eq_getElem hlt] at hb
      simp only [Option.map_some, if_pos (List.contains_iff_mem.2 hi), Option.some.injEq] at hb
      have hx := List.idxOf_lt_length_of_mem hi
      have hx1 : R.idxOf i < H1.length := by omega
      refine ⟨R.idxOf i, H1[R.idxOf i], hx1, List.getElem?_eq_getElem hx1, ?_, ?_⟩
      · rw [← hb]; simp [List.getD, hx1, bk]
      · show (if R.idxOf i < R.length then R.getD (R.idxOf i) 0 else _) = i
        rw [if_pos hx]
        have := hidx i hi
        simp only [f] at this
        simp [List.getD, this]
    · rw [hlenM] at h2
      rw [merge_get_new h1] at hb
      simp only [Option.map_eq_some_iff] at hb
      obtain ⟨b1, hb1, rfl⟩ := hb
      refine ⟨_, b1, (List.getElem?_eq_some_iff.1 hb1).1, hb1, rfl, ?_⟩
      show (if _ < R.length then _ else H.length + (R.length + (i - H.length) - R.length)) = i
      rw [if_neg (by omega)]; omega
  have hbk : ∀ j j', j < H1.length → j' < H1.length → bk j = bk j' → j = j' := fun j j' hj hj' he => by
    by_cases h1 : j < R.length <;> by_cases h2 : j' < R.length
    · have e1 : bk j = R[j] := by show (if j < R.length then R.getD j 0 else _) = _; rw [if_pos h1]; simp [List.getD, h1]
      have e2 : bk j' = R[j'] := by show (if j' < R.length then R.getD j' 0 else _) = _; rw [if_pos h2]; simp [List.getD, h2]
      exact (List.getElem_inj hnd).1 (e1.symm.trans (he.trans e2))
    · have e1 : bk j = R[j] := by show (if j < R.length then R.getD j 0 else _) = _; rw [if_pos h1]; simp [List.getD, h1]
      have e2 : bk j' = H.length + (j' - R.length) := if_neg h2
      have := hRlt _ (List.getElem_mem (l := R) h1)
      omega
    · have e1 : bk j = H.length + (j - R.length) := if_neg h1
      have e2 : bk j' = R[j'] := by show (if j' < R.length then R.getD j' 0 else _) = _; rw [if_pos h2]; simp [List.getD, h2]
      have := hRlt _ (List.getElem_mem (l := R) h2)
      omega
    · have e1 : bk j = H.length + (j - R.length) := if_neg h1
      have e2 : bk j' = H.length + (j' - R.length) := if_neg h2
      omega
  have hN : ∀ i, H.length ≤ i → i < H.length + (H1.length - R.length) → ¬ C.D i := fun i h1 h2 => hnew i h1 (by rw [hlenM]; exact h2)
  have hT1 : ∀ j, j < H1.length → Tch Hc H1 (List.range R.length) j := fun j hj => by
    by_cases h : j < R.length
    · exact .inl (List.mem_range.2 h)
    · exact .inr ⟨by rw [hlenc]; omega, hj⟩
  refine ⟨v, C', rfl, RV.rename (C := C1) (C' := C') (fun _ h => h) (fun _ _ => rfl) r v hV (fun i _ hD => hren1 i hD), ?_⟩
  refine ⟨⟨fun b hb => L1.keeps.fz b (hcF b hb), fun b hb => L1.keeps.blk b (hcF b hb), fun i hi => .inl hi, fun i hi => if_neg (fun h => hN i h.1 h.2 hi), fun i hi => if_neg (fun h => hN i h.1 h.2 hi)⟩,
    L1.os, L1.tape, L1.output, L1.size, by omega, fun i hi hn => ?_, fun k hk => ?_, fun k hk => ?_, L1.ltF, hDR, fun i => by rw [hlenM]; exact Iff.rfl, fun i b ht hb => ?_, fun i b k ht hb hl => ?_, fun i j b b' k hi hj hb hb' hl hl' => ?_⟩
  · rw [merge_get_old hi, List.getElem?_eq_getElem hi]
    simp only [Option.map_some, if_neg (fun h => hn (List.contains_iff_mem.1 h))]
  · rcases L1.frame k hk with h | h
    · exact .inl h
    · exact .inr (hwr k h)
  · rcases L1.newF k hk with h | h | h
    · rcases h with h | ⟨i, hi, b, hb, hl⟩
      · exact .inl h
      · exact .inr (.inr ⟨i, hosR i hi, b, (hHpo i hi).trans hb, hl⟩)
    · exact .inr (.inl h)
    · exact .inr (.inr (hli k h))
  · obtain ⟨j, b1, hj, hb1, rfl, rfl⟩ := getT i b ht hb
    have hR := hren1 j ((hD1 j).2 hj)
    exact (hRH1.blk j b1 hb1).ren (C' := C') hR.rho hR.siz rfl (fun m _ hD => hren1 m hD)
  · obtain ⟨j, b1, hj, hb1, rfl, rfl⟩ := getT i b ht hb
    rw [(hren1 j ((hD1 j).2 hj)).rho] at hl
    rcases L1.lies j b1 k (hT1 j hj) hb1 (Lies.ren.1 hl) with h | h
    · exact .inl h
    · exact .inr (hli k h)
  · obtain ⟨j1, b1, hj1, hb1, rfl, rfl⟩ := getT i b hi hb
    obtain ⟨j2, b2, hj2, hb2, rfl, rfl⟩ := getT j b' hj hb'
    rw [(hren1 j1 ((hD1 j1).2 hj1)).rho] at hl
    rw [(hren1 j2 ((hD1 j2).2 hj2)).rho] at hl'
    rw [hRH1.inj j1 j2 b1 b2 k hb1 hb2 (Lies.ren.1 hl) (Lies.ren.1 hl')]

end Go.Ax
