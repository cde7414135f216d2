/-
  Ax, text 17b: guarded quiet operations may be done whether the guard holds or not, where nobody looks at what they bring but under that guard.
-/
import Derived.Test.YtfoglingdnhjpaaGreatDoorXRegion
namespace Go.Ax
set_option linter.all false
set_option linter.unusedSectionVars false
variable [Gls]
variable {cf : CallF}
structure InvG (G : Gh) (E S : Env) : Prop where
 eq : ∀ n, lookG G n = none → get E n = get S n
 on : ∀ n t w, lookG G n = some (t, w) → get E t = .dat (.bool w) → get E n = get S n
 off : ∀ n t w, lookG G n = some (t, w) → get E t ≠ .dat (.bool w) → get E n = .tup []
theorem InvG.refl (E : Env) : InvG [] E E := ⟨fun _ _ => rfl, fun _ _ _ h => by simp [lookG] at h, fun _ _ _ h => by simp [lookG] at h⟩
theorem chain_on {G : Gh} {E S : Env} (h : InvG G E S) : ∀ (f : Nat) (p : Nat × Bool), get E p.1 = .dat (.bool p.2) → ∀ q ∈ chainG G f p, get E q.1 = .dat (.bool q.2)
 | 0, p, hp, q, hq => by simp only [chainG, List.mem_singleton] at hq; subst hq; exact hp
 | f + 1, p, hp, q, hq => by
  simp only [chainG, List.mem_cons] at hq
  rcases hq with rfl | hq
  ·exact hp
  ·cases hl : lookG G p.1 with
   | none => rw [hl] at hq; cases hq
   | some r =>
    rw [hl] at hq
    refine chain_on h f r ?_ q hq
    apply Classical.byContradiction
    intro hn
    have := h.off p.1 r.1 r.2 hl hn
    rw [hp] at this; cases this
theorem uses_eq {G : Gh} {E S : Env} (h : InvG G E S) {l : List (Nat × Bool)} (hl : ∀ q ∈ l, get E q.1 = .dat (.bool q.2)) {us : List Nat} (hu : usesIn G l us = true) : ∀ n ∈ us, get E n = get S n := by
 intro n hn
 have := List.all_eq_true.1 hu n hn
 split at this
 ·rename_i e; exact h.eq n e
 ·rename_i p e
  exact h.on n p.1 p.2 e (hl p (List.contains_iff_mem.1 this))
theorem ev_eq {E S : Env} {x : XO} (h : ∀ n ∈ x.uses, get E n = get S n) : x.ev E = x.ev S := XO.ev_congr h
theorem op_eq {G : Gh} {E S : Env} (h : InvG G E S) {l : List (Nat × Bool)} (hl : ∀ q ∈ l, get E q.1 = .dat (.bool q.2)) {op : XOp} (hu : opUses G l op = true) (H : List Blk) : evalOp cf E H op = evalOp cf S H op := by
 unfold opUses at hu
 split at hu
 ·rename_i t a b
  simp only [Bool.and_eq_true] at hu
  obtain ⟨⟨h1, h2⟩, h3⟩ := hu
  have ht : get E t = get S t := uses_eq h hl h1 t (by simp)
  have ht' : (XO.s t).ev E = (XO.s t).ev S := ht
  simp only [evalOp, ht']
  split
  ·rename_i e
   have : a.ev E = a.ev S := ev_eq (uses_eq h (l := (t, true) :: l) (fun q hq => by
    rcases List.mem_cons.1 hq with rfl | hq
    ·exact ht.trans e
    ·exact hl q hq) h2)
   rw [this]
  ·rename_i e
   have : b.ev E = b.ev S := ev_eq (uses_eq h (l := (t, false) :: l) (fun q hq => by
    rcases List.mem_cons.1 hq with rfl | hq
    ·exact ht.trans e
    ·exact hl q hq) h3)
   rw [this]
  ·rfl
 ·exact evalOp_congr (uses_eq h hl hu)
theorem touched_eq {G : Gh} {E S : Env} (h : InvG G E S) {l : List (Nat × Bool)} (hl : ∀ q ∈ l, get E q.1 = .dat (.bool q.2)) {op : XOp} (hu : opUses G l op = true) (H : List Blk) : touched E H op = touched S H op := by
 unfold opUses at hu
 split at hu
 ·rfl
 ·exact touched_congr (uses_eq h hl hu)
theorem lookG_filter {G : Gh} {d n : Nat} : lookG (G.filter fun p => p.1 != d) n = if n = d then none else lookG G n := by
 induction G with
 | nil => simp [lookG]
 | cons p r ih =>
  obtain ⟨k, q⟩ := p
  simp only [List.filter_cons]
  by_cases hk : k = d
  ·subst hk
   simp only [bne_self_eq_false, Bool.false_eq_true, if_false, ih, lookG]
   by_cases hn : n = k
   ·simp [hn]
   ·simp [hn, Ne.symm hn]
  ·have : (k != d) = true := by simpa using hk
   simp only [this, if_true, lookG, ih]
   by_cases hn : k = n
   ·subst hn; simp [hk]
   ·simp [hn]
theorem lookG_mem {G : Gh} {n : Nat} {p : Nat × Bool} (h : lookG G n = some p) : (n, p) ∈ G := by
 induction G with
 | nil => simp [lookG] at h
 | cons q r ih =>
  obtain ⟨k, q⟩ := q
  simp only [lookG] at h
  split at h
  ·rename_i e; subst e; injection h with h; subst h; exact List.mem_cons_self
  ·exact List.mem_cons_of_mem _ (ih h)
theorem InvG.write {G G' : Gh} {E S E' S' : Env} (h : InvG G E S) {dst : Option Nat} (hw : writeG G dst = some G') (hE : ∀ n, dst ≠ some n → get E' n = get E n) (hS : ∀ n, dst ≠ some n → get S' n = get S n)
  (hd : ∀ d, dst = some d → get E' d = get S' d) : InvG G' E' S' := by
 cases dst with
 | none =>
  simp only [writeG, Option.some.injEq] at hw; subst hw
  have e1 : ∀ n, get E' n = get E n := fun n => hE n (by simp)
  have e2 : ∀ n, get S' n = get S n := fun n => hS n (by simp)
  exact ⟨fun n hn => by rw [e1, e2]; exact h.eq n hn, fun n t w hn ht => by rw [e1] at ht; rw [e1, e2]; exact h.on n t w hn ht, fun n t w hn ht => by rw [e1] at ht; rw [e1]; exact h.off n t w hn ht⟩
 | some d =>
  simp only [writeG] at hw
  split at hw <;> first | (cases hw; done) | skip
  rename_i hany
  injection hw with hw; subst hw
  have hno : ∀ n t w, lookG G n = some (t, w) → t ≠ d := fun n t w hl e => by
   apply hany
   exact List.any_eq_true.2 ⟨(n, t, w), lookG_mem hl, by simp [e]⟩
  refine ⟨fun n hn => ?_, fun n t w hn ht => ?_, fun n t w hn ht => ?_⟩
  ·rw [lookG_filter] at hn
   by_cases e : n = d
   ·subst e; exact hd n rfl
   ·rw [if_neg e] at hn
    rw [hE n (by simpa using Ne.symm e), hS n (by simpa using Ne.symm e)]; exact h.eq n hn
  ·rw [lookG_filter] at hn
   split at hn <;> first | (cases hn; done) | skip
   rename_i e
   rw [hE t (by simpa using Ne.symm (hno n t w hn))] at ht
   rw [hE n (by simpa using Ne.symm e), hS n (by simpa using Ne.symm e)]; exact h.on n t w hn ht
  ·rw [lookG_filter] at hn
   split at hn <;> first | (cases hn; done) | skip
   rename_i e
   rw [hE t (by simpa using Ne.symm (hno n t w hn))] at ht
   rw [hE n (by simpa using Ne.symm e)]; exact h.off n t w hn ht
theorem InvG.ghost {G G' : Gh} {E S E' S' : Env} (h : InvG G E S) {d t : Nat} {w : Bool} (hw : writeG G (some d) = some G') (hdt : d ≠ t) (hE : ∀ n, d ≠ n → get E' n = get E n) (hS : ∀ n, d ≠ n → get S' n = get S n)
  (hon : get E t = .dat (.bool w) → get E' d = get S' d) (hoff : get E t ≠ .dat (.bool w) → get E' d = .tup []) : InvG ((d, t, w) :: G') E' S' := by
 simp only [writeG] at hw
 split at hw <;> first | (cases hw; done) | skip
 rename_i hany
 injection hw with hw; subst hw
 have hno : ∀ n t w, lookG G n = some (t, w) → t ≠ d := fun n t w hl e => by
  apply hany
  exact List.any_eq_true.2 ⟨(n, t, w), lookG_mem hl, by simp [e]⟩
 refine ⟨fun n hn => ?_, fun n t' w' hn ht => ?_, fun n t' w' hn ht => ?_⟩
 ·simp only [lookG] at hn
  split at hn <;> first | (cases hn; done) | skip
  rename_i e
  rw [lookG_filter, if_neg (Ne.symm e)] at hn
  rw [hE n e, hS n e]; exact h.eq n hn
 ·simp only [lookG] at hn
  split at hn
  ·rename_i e; subst e
   simp only [Option.some.injEq, Prod.mk.injEq] at hn; obtain ⟨rfl, rfl⟩ := hn
   rw [hE t hdt] at ht
   exact hon ht
  ·rename_i e
   rw [lookG_filter, if_neg (Ne.symm e)] at hn
   rw [hE t' (Ne.symm (hno n t' w' hn))] at ht
   rw [hE n e, hS n e]; exact h.on n t' w' hn ht
 ·simp only [lookG] at hn
  split at hn
  ·rename_i e; subst e
   simp only [Option.some.injEq, Prod.mk.injEq] at hn; obtain ⟨rfl, rfl⟩ := hn
   rw [hE t hdt] at ht
   exact hoff ht
  ·rename_i e
   rw [lookG_filter, if_neg (Ne.symm e)] at hn
   rw [hE t' (Ne.symm (hno n t' w' hn))] at ht
   rw [hE n e]; exact h.off n t' w' hn ht
theorem get_dst {env : Env} {d n : Nat} {v : AV} : get ((d, v) :: env) n = if d = n then v else get env n := rfl
def SubT (a b : List Nat × List Nat) : Prop := (∀ i ∈ a.1, i ∈ b.1) ∧ ∀ i ∈ a.2, i ∈ b.2
theorem SubT.refl (a : List Nat × List Nat) : SubT a a := ⟨fun _ h => h, fun _ h => h⟩
theorem SubT.nil (b : List Nat × List Nat) : SubT ([], []) b := ⟨(fun _ h => by cases h), (fun _ h => by cases h)⟩
theorem runOp_same {E S : Env} {H : List Blk} {o : XOper} {s' : St} (he : evalOp cf E H o.op = evalOp cf S H o.op) (hg : ∀ p, o.g = some p → get E p.1 = get S p.1) (hr : runOp cf o ⟨S, H⟩ = some s') :
  ∃ s2, runOp cf o ⟨E, H⟩ = some s2 ∧ s2.H = s'.H ∧ ∀ d, o.dst = some d → get s2.env d = get s'.env d := by
 obtain ⟨dst, op, g⟩ := o
 simp only at he
 cases g with
 | none =>
  simp only [runOp] at hr ⊢
  rw [he]
  split at hr <;> first | (cases hr; done) | skip
  injection hr with hr; subst hr
  exact ⟨_, rfl, rfl, fun d hd => by subst hd; simp [get]⟩
 | some p =>
  obtain ⟨t, want⟩ := p
  have ht := hg (t, want) rfl
  simp only [runOp] at hr ⊢
  simp only at ht
  rw [ht, he]
  split at hr
  ·split at hr
   ·rename_i hw
    split at hr <;> first | (cases hr; done) | skip
    injection hr with hr; subst hr
    rw [if_pos hw]
    exact ⟨_, rfl, rfl, fun d hd => by subst hd; simp [get]⟩
   ·rename_i hw
    injection hr with hr; subst hr
    rw [if_neg hw]
    exact ⟨_, rfl, rfl, fun d hd => by subst hd; simp [get]⟩
  ·injection hr with hr; subst hr
   exact ⟨_, rfl, rfl, fun d hd => by subst hd; simp [get]⟩
  ·cases hr
def wrE (dst : Option Nat) (v : AV) (X : Env) : Env := match dst with
 | some d => (d, v) :: X
 | none => X
theorem get_wrE {dst : Option Nat} {v : AV} {X : Env} {n : Nat} (h : dst ≠ some n) : get (wrE dst v X) n = get X n := by
 cases dst with
 | none => rfl
 | some d => simp only [wrE, get]; rw [if_neg (by simpa using h)]
theorem runOp_off {dst : Option Nat} {op : XOp} {t : Nat} {w : Bool} {X : Env} {H : List Blk} (h : (∃ b', get X t = .dat (.bool b') ∧ b' ≠ w) ∨ get X t = .tup []) :
  runOp cf ⟨dst, op, some (t, w)⟩ ⟨X, H⟩ = some ⟨wrE dst (.tup []) X, H⟩ ∧ runTouched X H ⟨dst, op, some (t, w)⟩ = ([], []) := by
 rcases h with ⟨b', h1, h2⟩ | h1
 ·exact ⟨by cases dst <;> simp only [runOp, h1, if_neg h2, wrE], by simp only [runTouched, h1, if_neg h2]⟩
 ·exact ⟨by cases dst <;> simp only [runOp, h1, wrE], by simp only [runTouched, h1]⟩
theorem step_strict {G G' : Gh} {o : XOper} {b try_ : Bool} (hs : stepG G o try_ = some (b, G')) {E S : Env} {H : List Blk} (hI : InvG G E S) {s' : St} (hr : runOpS cf o b ⟨S, H⟩ = some s') :
  ∃ s2, runOp cf o ⟨E, H⟩ = some s2 ∧ s2.H = s'.H ∧ InvG G' s2.env s'.env ∧ SubT (runTouched E H o) (touchedS S H o b) := by
 have exact_ : ∀ (l : List (Nat × Bool)) (G2 : Gh), b = false → (∀ p, o.g = some p → get E p.1 = get S p.1) → (∀ p, o.g = some p → l = [p]) → (o.g = none → l = []) → opUses G l o.op = true → writeG G o.dst = some G2 → G2 = G' →
   ∃ s2, runOp cf o ⟨E, H⟩ = some s2 ∧ s2.H = s'.H ∧ InvG G' s2.env s'.env ∧ SubT (runTouched E H o) (touchedS S H o b) := by
  intro l G2 hb hg hl hl0 hu hw hG
  subst hb; subst hG
  simp only [runOpS, Bool.false_eq_true, if_false] at hr
  simp only [touchedS, Bool.false_eq_true, if_false]
  by_cases hon : ∀ p, o.g = some p → get E p.1 = .dat (.bool p.2)
  ·have hall : ∀ q ∈ l, get E q.1 = .dat (.bool q.2) := fun q hq => by
    cases hgo : o.g with
    | none => rw [hl0 hgo] at hq; cases hq
    | some p => rw [hl p hgo] at hq; simp only [List.mem_singleton] at hq; subst hq; exact hon q hgo
   have he := op_eq (cf := cf) hI hall hu H
   have ht := touched_eq hI hall hu H
   obtain ⟨s2, h1, h2, h3⟩ := runOp_same he hg hr
   refine ⟨s2, h1, h2, hI.write hw (fun n hn => runOp_env h1 n hn) (fun n hn => runOp_env hr n hn) h3, ?_⟩
   have : runTouched E H o = runTouched S H o := by
    unfold runTouched
    cases hgo : o.g with
    | none => exact ht
    | some p => obtain ⟨t, w⟩ := p; simp only; have := hg (t, w) hgo; simp only at this; rw [this, ht]
   rw [this]; exact SubT.refl _
  ·-- it is off: nothing is done
   obtain ⟨dst, op, g⟩ := o
   cases g with
   | none => exact absurd (fun p hp => by cases hp) hon
   | some p =>
    obtain ⟨t, w⟩ := p
    have ht : get E t = get S t := hg (t, w) rfl
    have hne : get S t ≠ .dat (.bool w) := fun e => hon (fun p hp => by simp only [Option.some.injEq] at hp; subst hp; exact ht.trans e)
    have hcase : (∃ b', get S t = .dat (.bool b') ∧ b' ≠ w) ∨ get S t = .tup [] := by
     simp only [runOp] at hr
     split at hr
     ·rename_i b' hb'; exact .inl ⟨b', hb', fun e => hne (e ▸ hb')⟩
     ·rename_i h; exact .inr h
     ·cases hr
    have hoffS := (runOp_off (cf := cf) (dst := dst) (op := op) (H := H) hcase).1
    rw [hoffS] at hr
    have hcaseE : (∃ b', get E t = .dat (.bool b') ∧ b' ≠ w) ∨ get E t = .tup [] := by rw [ht]; exact hcase
    injection hr with hr
    refine ⟨_, (runOp_off (cf := cf) hcaseE).1, by rw [← hr], ?_, ?_⟩
    ·rw [← hr]
     exact hI.write hw (fun n hn => get_wrE hn) (fun n hn => get_wrE hn) (fun d hd => by simp only at hd; subst hd; simp [get, wrE])
    ·rw [(runOp_off (cf := cf) hcaseE).2]; exact SubT.nil _
 unfold stepG at hs
 split at hs
 ·rename_i hg
  split at hs <;> first | (cases hs; done) | skip
  rename_i hu
  simp only [Option.map_eq_some_iff, Prod.mk.injEq] at hs
  obtain ⟨G2, hw, rfl, rfl⟩ := hs
  exact exact_ [] _ rfl (fun p hp => by rw [hg] at hp; cases hp) (fun p hp => by rw [hg] at hp; cases hp) (fun _ => rfl) hu hw rfl
 ·rename_i t w hg
  split at hs
  ·rename_i d hd
   split at hs
   ·rename_i hc
    obtain ⟨_, hm, hu, hdt⟩ := hc
    split at hs <;> first | (cases hs; done) | skip
    rename_i G2 hw
    simp only [Option.some.injEq, Prod.mk.injEq] at hs
    obtain ⟨rfl, rfl⟩ := hs
    obtain ⟨dst, op, g⟩ := o
    simp only at hg hd hm hu; subst hg; subst hd
    simp only [runOpS, if_true] at hr
    simp only [touchedS, if_true]
    have hcase : get E t = .dat (.bool w) ∨ get E t ≠ .dat (.bool w) := Classical.em _
    split at hr
    ·rename_i b' hb'
     have hr' : ∃ v, evalOp cf S H op = some (v, H) ∧ s' = ⟨(d, v) :: S, H⟩ := by
      simp only [runOp] at hr
      split at hr <;> first | (cases hr; done) | skip
      rename_i v H1 hv
      obtain ⟨rfl, _⟩ := makes_no hm hv
      injection hr with hr
      exact ⟨v, hv, hr.symm⟩
     obtain ⟨v, hv, rfl⟩ := hr'
     rcases hcase with hon | hoff
     ·have hall : ∀ q ∈ chainG G 8 (t, w), get E q.1 = .dat (.bool q.2) := chain_on hI 8 (t, w) hon
      have he := op_eq (cf := cf) hI hall hu H
      have ht := touched_eq hI hall hu H
      refine ⟨⟨(d, v) :: E, H⟩, ?_, rfl, ?_, ?_⟩
      ·simp only [runOp, hon, if_true, he, hv]
      ·exact hI.ghost hw hdt (fun n hn => by simp [get, hn]) (fun n hn => by simp [get, hn]) (fun _ => by simp [get]) (fun h => absurd hon h)
      ·simp only [runTouched, hon, if_true, ht]; exact SubT.refl _
     ·have hEt : (∃ b2, get E t = .dat (.bool b2) ∧ b2 ≠ w) ∨ get E t = .tup [] := by
       cases hl : lookG G t with
       | none => have := hI.eq t hl; rw [hb'] at this; exact .inl ⟨b', this, fun e => hoff (e ▸ this)⟩
       | some p =>
        by_cases h1 : get E p.1 = .dat (.bool p.2)
        ·have := hI.on t p.1 p.2 hl h1; rw [hb'] at this; exact .inl ⟨b', this, fun e => hoff (e ▸ this)⟩
        ·exact .inr (hI.off t p.1 p.2 hl h1)
      refine ⟨⟨(d, .tup []) :: E, H⟩, ?_, rfl, ?_, ?_⟩
      ·rcases hEt with ⟨b2, h1, h2⟩ | h1
       ·simp only [runOp, h1, if_neg h2]
       ·simp only [runOp, h1]
      ·exact hI.ghost hw hdt (fun n hn => by simp [get, hn]) (fun n hn => by simp [get, hn]) (fun h => absurd h hoff) (fun _ => by simp [get])
      ·rcases hEt with ⟨b2, h1, h2⟩ | h1
       ·simp only [runTouched, h1, if_neg h2]; exact SubT.nil _
       ·simp only [runTouched, h1]; exact SubT.nil _
    ·rename_i hb'
     injection hr with hr; subst hr
     have hEt : get E t = .tup [] := by
      cases hl : lookG G t with
      | none => exact (hI.eq t hl).trans hb'
      | some p =>
       by_cases h1 : get E p.1 = .dat (.bool p.2)
       ·exact (hI.on t p.1 p.2 hl h1).trans hb'
       ·exact hI.off t p.1 p.2 hl h1
     refine ⟨⟨(d, .tup []) :: E, H⟩, by simp only [runOp, hEt], rfl, ?_, ?_⟩
     ·exact hI.ghost hw hdt (fun n hn => by simp [get, hn]) (fun n hn => by simp [get, hn]) (fun h => by rw [hEt] at h; cases h) (fun _ => by simp [get])
     ·simp only [runTouched, hEt]; exact SubT.nil _
    ·cases hr
   ·split at hs <;> first | (cases hs; done) | skip
    rename_i hc
    obtain ⟨hl, hu⟩ := hc
    simp only [Option.map_eq_some_iff, Prod.mk.injEq] at hs
    obtain ⟨G2, hw, rfl, rfl⟩ := hs
    exact exact_ [(t, w)] _ rfl (fun p hp => by rw [hg] at hp; injection hp with hp; subst hp; exact hI.eq t hl) (fun p hp => by rw [hg] at hp; injection hp with hp; subst hp; rfl) (fun h => by rw [hg] at h; cases h) hu (by rw [hd]; exact hw) rfl
  ·rename_i hd
   split at hs <;> first | (cases hs; done) | skip
   rename_i hc
   obtain ⟨hl, hu⟩ := hc
   simp only [Option.some.injEq, Prod.mk.injEq] at hs
   obtain ⟨rfl, rfl⟩ := hs
   exact exact_ [(t, w)] _ rfl (fun p hp => by rw [hg] at hp; injection hp with hp; subst hp; exact hI.eq t hl) (fun p hp => by rw [hg] at hp; injection hp with hp; subst hp; rfl) (fun h => by rw [hg] at h; cases h) hu (by rw [hd]; rfl) rfl
theorem strict_run : ∀ (ops : List XOper) (bad : List Nat) (G G' : Gh) (l : List (XOper × Bool)), strictG bad G ops = some (l, G') → ∀ (E S : Env) (H : List Blk) (s' : St), InvG G E S → runOpsS cf l ⟨S, H⟩ = some s' →
  ∃ s2, runOps cf ops ⟨E, H⟩ = some s2 ∧ s2.H = s'.H ∧ InvG G' s2.env s'.env
 | [], bad, G, G', l, hs, E, S, H, s', hI, hr => by
  simp only [strictG, Option.some.injEq, Prod.mk.injEq] at hs; obtain ⟨rfl, rfl⟩ := hs
  simp only [runOpsS, Option.some.injEq] at hr; subst hr
  exact ⟨_, rfl, rfl, hI⟩
 | o :: r, bad, G, G', l, hs, E, S, H, s', hI, hr => by
  simp only [strictG] at hs
  split at hs <;> first | (cases hs; done) | skip
  rename_i b G1 h1
  split at hs <;> first | (cases hs; done) | skip
  rename_i l2 G2 h2
  simp only [Option.some.injEq, Prod.mk.injEq] at hs; obtain ⟨rfl, rfl⟩ := hs
  simp only [runOpsS] at hr
  split at hr <;> first | (cases hr; done) | skip
  rename_i s1 hs1
  obtain ⟨s2, g1, g2, g3, _⟩ := step_strict h1 hI hs1
  obtain ⟨env2, H2⟩ := s2
  obtain ⟨env1, H1⟩ := s1
  simp only at g2; subst g2
  obtain ⟨s3, k1, k2, k3⟩ := strict_run r _ G1 _ l2 h2 env2 env1 _ s' g3 hr
  exact ⟨s3, by simp only [runOps, g1]; exact k1, k2, k3⟩
theorem strict_trace : ∀ (ops : List XOper) (bad : List Nat) (G G' : Gh) (l : List (XOper × Bool)), strictG bad G ops = some (l, G') → ∀ (E S : Env) (H : List Blk) (s' : St) (t : List Trace), InvG G E S → traceOpsS cf l ⟨S, H⟩ = some (s', t) →
  ∃ s2 t2, traceOps cf ops ⟨E, H⟩ = some (s2, t2) ∧ s2.H = s'.H ∧ InvG G' s2.env s'.env ∧ t2.length = t.length ∧ ∀ (k : Nat) (a b : Trace), t2[k]? = some a → t[k]? = some b → SubT a.1 b.1 ∧ a.2 = b.2
 | [], bad, G, G', l, hs, E, S, H, s', t, hI, hr => by
  simp only [strictG, Option.some.injEq, Prod.mk.injEq] at hs; obtain ⟨rfl, rfl⟩ := hs
  simp only [traceOpsS, Option.some.injEq, Prod.mk.injEq] at hr; obtain ⟨rfl, rfl⟩ := hr
  exact ⟨_, _, rfl, rfl, hI, rfl, fun k a b h => by simp at h⟩
 | o :: r, bad, G, G', l, hs, E, S, H, s', t, hI, hr => by
  simp only [strictG] at hs
  split at hs <;> first | (cases hs; done) | skip
  rename_i b G1 h1
  split at hs <;> first | (cases hs; done) | skip
  rename_i l2 G2 h2
  simp only [Option.some.injEq, Prod.mk.injEq] at hs; obtain ⟨rfl, rfl⟩ := hs
  simp only [traceOpsS] at hr
  split at hr <;> first | (cases hr; done) | skip
  rename_i s1 hs1
  split at hr <;> first | (cases hr; done) | skip
  rename_i s2' t' ht'
  simp only [Option.some.injEq, Prod.mk.injEq] at hr; obtain ⟨rfl, rfl⟩ := hr
  obtain ⟨s2, g1, g2, g3, g4⟩ := step_strict h1 hI hs1
  obtain ⟨env2, H2⟩ := s2
  obtain ⟨env1, H1⟩ := s1
  simp only at g2; subst g2
  obtain ⟨s3, t3, k1, k2, k3, k4, k5⟩ := strict_trace r _ G1 _ l2 h2 env2 env1 _ s2' t' g3 ht'
  refine ⟨s3, (runTouched E H o, H.length, H2.length) :: t3, by simp only [traceOps, g1, k1], k2, k3, by simp [k4], fun k a b ha hb => ?_⟩
  cases k with
  | zero =>
   simp only [List.getElem?_cons_zero, Option.some.injEq] at ha hb
   subst ha; subst hb
   exact ⟨g4, rfl⟩
  | succ k => exact k5 k a b (by simpa using ha) (by simpa using hb)
theorem apartT_sub {a b a' b' : Trace} (ha : SubT a.1 a'.1 ∧ a.2 = a'.2) (hb : SubT b.1 b'.1 ∧ b.2 = b'.2) (h : apartT a' b' = true) : apartT a b = true := by
 simp only [apartT, List.all_eq_true] at h ⊢
 intro i hi
 have := h i (hb.1.1 i hi)
 rw [← ha.2] at this
 simp only [Bool.and_eq_true, Bool.not_eq_true'] at this ⊢
 refine ⟨?_, this.2⟩
 have h1 := this.1
 cases hc : a.1.2.contains i with
 | false => rfl
 | true =>
  have := ha.1.2 i (List.contains_iff_mem.1 hc)
  rw [List.contains_iff_mem.2 this] at h1; cases h1
theorem parOk_sub {par : List (Nat × Nat)} {t t2 : List Trace} (hl : t2.length = t.length) (h : ∀ (k : Nat) (a b : Trace), t2[k]? = some a → t[k]? = some b → SubT a.1 b.1 ∧ a.2 = b.2) (hp : parOk par t = true) : parOk par t2 = true := by
 simp only [parOk, List.all_eq_true] at hp ⊢
 intro p hm
 have := hp p hm
 split at this <;> first | (cases this; done) | skip
 rename_i a b ha hb
 have l1 := (List.getElem?_eq_some_iff.1 ha).1
 have l2 := (List.getElem?_eq_some_iff.1 hb).1
 have e1 : t2[p.1]? = some t2[p.1] := List.getElem?_eq_getElem (by omega)
 have e2 : t2[p.2]? = some t2[p.2] := List.getElem?_eq_getElem (by omega)
 rw [e1, e2]
 simp only [Bool.and_eq_true] at this ⊢
 exact ⟨apartT_sub (h _ _ _ e1 ha) (h _ _ _ e2 hb) this.1, apartT_sub (h _ _ _ e2 hb) (h _ _ _ e1 ha) this.2⟩
theorem restrict_congr {E S : Env} : ∀ {keep : List Nat}, (∀ n ∈ keep, get E n = get S n) → restrict E keep = restrict S keep := fun h => by
 unfold restrict
 exact List.map_congr_left fun n hn => by rw [h n hn]
theorem strictify_run {keep : List Nat} {ops : List XOper} {l : List (XOper × Bool)} (hs : strictify keep ops = some l) {s s' : St} (hr : runOpsS cf l s = some s') :
  ∃ s2, runOps cf ops s = some s2 ∧ s2.H = s'.H ∧ restrict s2.env keep = restrict s'.env keep := by
 unfold strictify at hs
 split at hs <;> first | (cases hs; done) | skip
 rename_i l2 G hg
 split at hs <;> first | (cases hs; done) | skip
 rename_i hk
 injection hs with hs; subst hs
 simp only [Bool.and_eq_true, List.all_eq_true, Option.isNone_iff_eq_none] at hk
 obtain ⟨s2, h1, h2, h3⟩ := strict_run ops [] [] G _ hg s.env s.env s.H s' (InvG.refl _) hr
 exact ⟨s2, h1, h2, restrict_congr fun n hn => h3.eq n (hk.1 n hn)⟩
theorem strictify_trace {keep : List Nat} {ops : List XOper} {l : List (XOper × Bool)} (hs : strictify keep ops = some l) {par : List (Nat × Nat)} {s s' : St} {t : List Trace} (hr : traceOpsS cf l s = some (s', t)) (hp : parOk par t = true) :
  ∃ s2 t2, traceOps cf ops s = some (s2, t2) ∧ parOk par t2 = true ∧ s2.H = s'.H ∧ restrict s2.env keep = restrict s'.env keep := by
 unfold strictify at hs
 split at hs <;> first | (cases hs; done) | skip
 rename_i l2 G hg
 split at hs <;> first | (cases hs; done) | skip
 rename_i hk
 injection hs with hs; subst hs
 simp only [Bool.and_eq_true, List.all_eq_true, Option.isNone_iff_eq_none] at hk
 obtain ⟨s2, t2, h1, h2, h3, h4, h5⟩ := strict_trace ops [] [] G _ hg s.env s.env s.H s' t (InvG.refl _) hr
 exact ⟨s2, t2, h1, parOk_sub h4 h5 hp, h2, restrict_congr fun n hn => h3.eq n (hk.1 n hn)⟩
end Go.Ax
