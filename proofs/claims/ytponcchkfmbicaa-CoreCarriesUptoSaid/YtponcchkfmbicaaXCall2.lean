/-
  Ax, text 14: calls that are handed no pointer.
-/
import Derived.Test.YtponcchkfmbicaaXCall
namespace Go.Ax
set_option linter.unusedSectionVars false
open Go.RowKit

variable [Gls]
variable {P : Program} {C C' : Ctx} {w w' : World} {a : Act} {env : Env} {H H' : List Blk} {cf : CallF} {av : AV} {o : Oper} {xo : XOp} {Hp : Nat → Option Blk} {wr : List Nat}

theorem RH.empty (hF : ∀ b, C.Fz b → b < w.heap.size) : RH C w (at_ []) := ⟨fun i b h => by simp [at_] at h, fun i b h => by simp [at_] at h, fun i j b b' k h => by simp [at_] at h, hF⟩

theorem flatArr_move {C1 : Ctx} {id id' : Nat} {b : Blk} (hB : RB C1 w id b) (hb : flatArr b = true) (hρ : C.ρ id' = C1.ρ id) (hsz : C.sz id' = C1.sz id) (hF : ∀ k, Lies b (C1.ρ id) k → (C.Fz k ↔ C1.Fz k)) (f : Nat → Nat) : RB C w id' (b.ren f) := by
  cases hB with
  | box => simp [flatArr] at hb
  | mp => simp [flatArr] at hb
  | arr0 e sz fl fz h1 h2 h3 => exact .arr0 e sz fl fz (hρ.trans h1) (hsz.trans h2) h3
  | arr e sz fl fz xs g cap c h1 h2 h3 hbk hc hl hcap hFz hs hfl hcell =>
    simp only [flatArr] at hb
    have hflc : ∀ d ∈ flatten xs, d.flat = true := fun d hd => by
      obtain ⟨x, hx, hdx⟩ := List.mem_flatMap.1 hd
      have := hfl hb x hx
      cases x with
      | agg cs => simp only [Dat.flat] at this; exact flats_mem this d hdx
      | _ => simp only [Dat.cells, List.mem_singleton] at hdx; subst hdx; exact this
    exact .arr e sz fl fz xs g cap c (hρ.trans h1) (hsz.trans h2) h3 hbk hc hl hcap ((hF g (by rw [h1]; rfl)).trans hFz) hs hfl
      (fun k d hk => let ⟨v, a, b, c⟩ := hcell k d hk; ⟨v, a, b.flat_any (hflc d (List.mem_of_getElem? hk)), c⟩)
  | dead => exact .dead

theorem RB.rename {C1 : Ctx} {id id' : Nat} {b : Blk} {f : Nat → Nat} (hB : RB C1 w id b) (hρ : C.ρ id' = C1.ρ id) (hsz : C.sz id' = C1.sz id) (hF : ∀ k, Lies b (C1.ρ id) k → (C.Fz k ↔ C1.Fz k)) (hmono : ∀ k, C1.Fz k → C.Fz k)
    (hr : ∀ i ∈ b.refs, C1.D i → Ren C1 C w w f i) : RB C w id' (b.ren f) := by
  cases hB with
  | box cs bb c t h1 hbk hn hFz h h2 =>
    have hR := RL.rename (C := C1) (C' := C) (w := w) (w' := w) (f := f) hmono (fun _ _ => rfl) cs c.toList ⟨by simpa using hn, fun j u x hu hx => h j u x (by simpa using hu) hx⟩ (fun i hi => hr i (by simpa [Blk.refs] using hi))
    refine .box _ bb c t (hρ.trans h1) hbk (by simpa using hR.1) (fun hf => hFz ((hF bb (by rw [h1]; rfl)).1 hf)) (fun j v av hv hav => hR.2 j v av (by simpa using hv) hav) h2
  | arr0 e sz fl fz h1 h2 h3 => exact .arr0 e sz fl fz (hρ.trans h1) (hsz.trans h2) h3
  | arr e sz fl fz xs g cap c h1 h2 h3 hbk hc hl hcap hFz hs hfl hcell =>
    exact .arr e sz fl fz xs g cap c (hρ.trans h1) (hsz.trans h2) h3 hbk hc hl hcap ((hF g (by rw [h1]; rfl)).trans hFz) hs hfl
      (fun k d hk => let ⟨v, a, b, c⟩ := hcell k d hk; ⟨v, a, b.keeps hmono (fun _ _ => rfl), c⟩)
  | mp l b es ck h1 hbk hFz hst hsz hl hk hs =>
    exact .mp l b es ck (hρ.trans h1) hbk (fun hf => hFz ((hF b (by rw [h1]; rfl)).1 hf)) hst hsz hl (fun x hx => let ⟨n, a, b, d, e, f⟩ := hk x hx; ⟨n, a, b, d, e, f.keeps hmono (fun _ _ => rfl)⟩) hs
  | dead => exact .dead

theorem pureCall_sound (hcf : CFSound P cf) {g : Nat} {args : List AV} {r : AV} {H1 : List Blk} {args' : List AV} (hstrip : AV.stripL H args = some args') (hr : cf g args' [] = some (r, H1))
    {us : List Value} (hus : RL C w us args) (hG : GlR C w) (hH : RH C w Hp) (hp : AV.hasPtrL args = false) (hHp : ∀ i ∈ AV.refsL args, Hp i = H[i]?) (ids : List Nat) (hids : ids = if (AV.safe H1 r && H1.all flatArr) || (AV.ownsL args).isEmpty then [] else AV.ownsL args)
    (hnew : ∀ i, H.length ≤ i → i < H.length + H1.length → ¬ C.D i) :
    Calls P g us.toArray w fun e w' => ∃ v C', e = .returned v ∧ RV C' w' v (r.ren (· + H.length)) ∧ Local C C' w w' H (freeze ids H ++ H1.map (Blk.ren (· + H.length))) Hp ids := by
  -- the callee's context
  let Cc : Ctx := { ρ := C.ρ, sz := C.sz, D := fun _ => False, Fz := fun k => C.Fz k ∨ ∃ i ∈ AV.ownsL args, ∃ b, H[i]? = some b ∧ Lies b (C.ρ i) k }
  have howns := stripL_owns args args' hstrip
  have hHpo : ∀ i ∈ AV.ownsL args, Hp i = H[i]? := fun i hi => hHp i (ownsL_refs args i hi)
  have hstripR : RL Cc w us args' := stripL_sound (C' := Cc) hH (fun _ h => .inl h) args args' hstrip hHp (fun i hi b k hb hk => .inr ⟨i, hi, b, hb, hk⟩) (fun i hi => by rw [ptrsL_nil args hp] at hi; cases hi) us hus
  have hcl : ∀ k, Cc.Fz k → k < w.heap.size := by
    rintro k (h | ⟨i, hi, b, hb, hk⟩)
    · exact hH.lt k h
    · exact (hH.blk i b ((hHpo i hi).trans hb)).lies_lt hk
  have hcall := hcf.calls g args' [] r H1 hr Cc w us hstripR (RH.empty hcl) (fun i => ⟨fun h => h.elim, fun h => by simp at h⟩) (hG.mono (fun _ h => .inl h) (fun _ _ => rfl))
  refine hcall.mono fun e w' hpost => ?_
  obtain ⟨v, C1, rfl, hV, L1⟩ := hpost
  simp only [List.length_nil, List.range_zero] at L1
  have hD1 : ∀ i, C1.D i ↔ i < H1.length := fun i => by
    rw [L1.dom i]; simp only [List.length_nil, Nat.zero_le, true_and]
    exact ⟨fun h => h.elim (fun h => h.elim) id, .inr⟩
  have hsame : ∀ k, k < w.heap.size → w'.heap[k]? = w.heap[k]? := fun k hk => (L1.frame k hk).resolve_right (by rintro ⟨i, hi, _⟩; cases hi)
  have hRH1 : RH C1 w' (at_ H1) := by
    have := L1.heap (RH.empty hcl)
    have e : upd (at_ []) [] H1 [] = at_ H1 := by
      funext i
      unfold upd
      split
      · rfl
      · rename_i h
        have : ¬ i < H1.length := fun hlt => h (.inr ⟨Nat.zero_le _, hlt⟩)
        simp only [at_, List.getElem?_nil]
        rw [List.getElem?_eq_none (by omega)]
    rwa [e] at this
  have hlies1 : ∀ i b k, H1[i]? = some b → Lies b (C1.ρ i) k → w.heap.size ≤ k := fun i b k hb hk => by
    have hi : i < H1.length := (List.getElem?_eq_some_iff.1 hb).1
    rcases L1.lies i b k (.inr ⟨Nat.zero_le _, hi⟩) hb hk with h | ⟨j, hj, _⟩
    · exact h
    · cases hj
  have hidsub : ∀ i ∈ ids, i ∈ AV.ownsL args := fun i hi => by
    rw [hids] at hi
    split at hi
    · cases hi
    · exact hi
  refine ⟨v, ctxCall C C1 w H H1 ids, rfl, ?_, ?_⟩
  -- what the callee's numbers become
  all_goals
    have hren : ∀ i, C1.D i → Ren C1 (ctxCall C C1 w H H1 ids) w' w' (· + H.length) i := fun i hi => by
      have hi := (hD1 i).1 hi
      refine ⟨.inr ⟨by omega, by omega⟩, ?_, ?_⟩
      · simp only [ctxCall]
        rw [if_pos ⟨by omega, by omega⟩]; congr 1; omega
      · simp only [ctxCall]
        rw [if_pos ⟨by omega, by omega⟩]; congr 1; omega
    have hFnew : ∀ k, w.heap.size ≤ k → ((ctxCall C C1 w H H1 ids).Fz k ↔ C1.Fz k) := fun k hk => by
      simp only [ctxCall]
      constructor
      · rintro (h | ⟨i, hi, b, hb, hl⟩ | h)
        · have := hH.lt k h; omega
        · have := (hH.blk i b ((hHpo i (hidsub i hi)).trans hb)).lies_lt hl; omega
        · exact h.2
      · exact fun h => .inr (.inr ⟨hk, h⟩)
    have hcases : ((AV.safe H1 r && H1.all flatArr) = true ∧ ids = []) ∨ ∀ k, C1.Fz k → (ctxCall C C1 w H H1 ids).Fz k := by
      by_cases hs : (AV.safe H1 r && H1.all flatArr) = true
      · exact .inl ⟨hs, by rw [hids, if_pos (by rw [hs]; rfl)]⟩
      · right
        intro k hk
        by_cases hlt : w.heap.size ≤ k
        · exact (hFnew k hlt).2 hk
        · rcases L1.newF k hk with h | h | ⟨i, hi, _⟩
          · rcases h with h | ⟨i, hi, b, hb, hl⟩
            · exact .inl h
            · refine .inr (.inl ⟨i, ?_, b, hb, hl⟩)
              rw [hids, if_neg]
              · exact hi
              · intro h
                rw [Bool.or_eq_true] at h
                rcases h with h | h
                · exact hs h
                · rw [List.isEmpty_iff] at h; rw [h] at hi; cases hi
          · exact absurd h hlt
          · cases hi
  · rcases hcases with ⟨hs, hi0⟩ | hmono
    · simp only [Bool.and_eq_true] at hs
      exact safe_rename r hs.1 v hV (fun i hi hD => hren i hD)
    · exact RV.rename hmono (fun _ _ => rfl) r v hV (fun i hi hD => hren i hD)
  · refine Local.ext hH ids (H1.map (Blk.ren (· + H.length))) C1.Fz (fun i hi => howns i (hidsub i hi)) (fun i hi => hHpo i (hidsub i hi)) (fun i hi => ?_) (fun i hi => ?_) (fun i => ?_) (fun k => Iff.rfl) L1.os L1.tape L1.output L1.size hsame L1.ltF
      (fun j b hb => ?_) (fun j b k hb hk => ?_) (fun i j b b' k hi hj hli hlj => ?_)
    · simp only [ctxCall]; exact if_neg (fun h => hnew i h.1 h.2 hi)
    · simp only [ctxCall]; exact if_neg (fun h => hnew i h.1 h.2 hi)
    · simp only [ctxCall, List.length_map]
    · rw [List.getElem?_map, Option.map_eq_some_iff] at hb
      obtain ⟨b1, hb1, rfl⟩ := hb
      have hjl : j < H1.length := (List.getElem?_eq_some_iff.1 hb1).1
      have hR := hren j ((hD1 j).2 hjl)
      have e1 : H.length + j = j + H.length := Nat.add_comm _ _
      have hFl : ∀ k, Lies b1 (C1.ρ j) k → ((ctxCall C C1 w H H1 ids).Fz k ↔ C1.Fz k) := fun k hk => hFnew k (hlies1 j b1 k hb1 hk)
      rw [e1]
      rcases hcases with ⟨hs, hi0⟩ | hmono
      · simp only [Bool.and_eq_true, List.all_eq_true] at hs
        exact flatArr_move (hRH1.blk j b1 hb1) (hs.2 b1 (List.mem_of_getElem? hb1)) hR.rho hR.siz hFl _
      · exact RB.rename (hRH1.blk j b1 hb1) hR.rho hR.siz hFl hmono (fun i hi hD => hren i hD)
    · rw [List.getElem?_map, Option.map_eq_some_iff] at hb
      obtain ⟨b1, hb1, rfl⟩ := hb
      have hjl : j < H1.length := (List.getElem?_eq_some_iff.1 hb1).1
      have hR := hren j ((hD1 j).2 hjl)
      rw [Nat.add_comm, hR.rho] at hk
      exact hlies1 j b1 k hb1 (Lies.ren.1 hk)
    · rw [List.getElem?_map, Option.map_eq_some_iff] at hi hj
      obtain ⟨b1, hb1, rfl⟩ := hi
      obtain ⟨b2, hb2, rfl⟩ := hj
      have hil : i < H1.length := (List.getElem?_eq_some_iff.1 hb1).1
      have hjl : j < H1.length := (List.getElem?_eq_some_iff.1 hb2).1
      have hR1 := hren i ((hD1 i).2 hil)
      have hR2 := hren j ((hD1 j).2 hjl)
      rw [Nat.add_comm, hR1.rho] at hli
      rw [Nat.add_comm, hR2.rho] at hlj
      exact hRH1.inj i j b1 b2 k hb1 hb2 (Lies.ren.1 hli) (Lies.ren.1 hlj)

end Go.Ax
