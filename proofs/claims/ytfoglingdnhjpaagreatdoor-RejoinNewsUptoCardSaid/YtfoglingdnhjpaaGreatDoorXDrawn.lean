/-
  Ax, text 20: regions in any order.
-/
import Derived.Test.YtfoglingdnhjpaaGreatDoorXStrict
namespace Go.Ax
set_option linter.all false
set_option linter.unusedSectionVars false
open Go.RowKit
section cells
variable {ι α : Type} (σ : Nat → ι → α) (W : Nat → ι → Prop) (b : Nat → Prop)
open Classical in
noncomputable def after : Nat → ι → α
 | 0, x => σ 0 x
 | k + 1, x => if b k ∧ W k x then σ (k + 1) x else after k x
variable {σ W b} {n : Nat}
theorem after_agree (hf : ∀ k, k < n → ∀ x, ¬ W k x → σ (k + 1) x = σ k x) {x : ι} : ∀ k, k ≤ n → (∀ j, j < k → W j x → b j) → after σ W b k x = σ k x
 | 0, _, _ => rfl
 | k + 1, hk, h => by
  simp only [after]
  split
  ·rfl
  ·rename_i hn
   have hW : ¬ W k x := fun hw => hn ⟨h k (by omega) hw, hw⟩
   rw [hf k (by omega) x hW]
   exact after_agree hf k (by omega) (fun j hj => h j (by omega))
theorem after_stop {x : ι} {k : Nat} : ∀ m, (∀ j, k ≤ j → j < k + m → b j → ¬ W j x) → after σ W b (k + m) x = after σ W b k x
 | 0, _ => rfl
 | m + 1, h => by
  rw [show k + (m + 1) = (k + m) + 1 by omega]
  simp only [after]
  rw [if_neg (fun hw => h (k + m) (by omega) (by omega) hw.1 hw.2)]
  exact after_stop m (fun j h1 h2 => h j h1 (by omega))
theorem after_read (hf : ∀ k, k < n → ∀ x, ¬ W k x → σ (k + 1) x = σ k x) {x : ι} {i : Nat} (hi : i < n) (hb : ¬ b i) (h1 : ∀ j, j < i → W j x → b j) (h2 : ∀ j, i < j → j < n → b j → ¬ W j x) : after σ W b n x = σ i x := by
 have : after σ W b (i + (n - i)) x = after σ W b i x := after_stop (n - i) (fun j hj hjn hbj => by
  by_cases e : j = i
  ·subst e; exact absurd hbj hb
  ·exact h2 j (by omega) (by omega) hbj)
 rw [show i + (n - i) = n by omega] at this
 rw [this]
 exact after_agree hf i (by omega) h1
theorem after_add_not {x : ι} {i : Nat} (hW : ¬ W i x) : ∀ m, after σ W (fun j => b j ∨ j = i) m x = after σ W b m x
 | 0 => rfl
 | m + 1 => by
  simp only [after, after_add_not hW m]
  by_cases e : m = i
  ·subst e; rw [if_neg (fun h => hW h.2), if_neg (fun h => hW h.2)]
  ·by_cases h : b m ∧ W m x
   ·rw [if_pos h, if_pos ⟨.inl h.1, h.2⟩]
   ·rw [if_neg h, if_neg (fun h' => h ⟨h'.1.resolve_right e, h'.2⟩)]
theorem after_add {x : ι} {i : Nat} (hi : i < n) (hW : W i x) (h2 : ∀ j, i < j → j < n → b j → ¬ W j x) : after σ W (fun j => b j ∨ j = i) n x = σ (i + 1) x := by
 have : after σ W (fun j => b j ∨ j = i) ((i + 1) + (n - (i + 1))) x = after σ W (fun j => b j ∨ j = i) (i + 1) x := after_stop _ (fun j hj hjn hbj => by
  rcases hbj with h | h
  ·exact h2 j (by omega) (by omega) h
  ·omega)
 rw [show (i + 1) + (n - (i + 1)) = n by omega] at this
 rw [this]
 simp only [after]
 rw [if_pos ⟨.inr rfl, hW⟩]
end cells
variable [Gls]
variable {P : Program} {C0 C C' : Ctx} {w0 w w' : World} {a : Act} {env : Env} {H0 H H' : List Blk} {cf : CallF} {av : AV} {o : Oper} {xo : XOp} {Hp : Nat → Option Blk} {wr : List Nat} {ops : Array Oper} {N : Nat}
 {Q : Exit → Act → World → Prop}
theorem trace_states : ∀ {l : List XOper} {s s' : St} {t : List Trace}, traceOps cf l s = some (s', t) → ∃ st : Nat → St, st 0 = s ∧ st l.length = s' ∧ t.length = l.length ∧
  ∀ k x, l[k]? = some x → runOp cf x (st k) = some (st (k + 1)) ∧ t[k]? = some (runTouched (st k).env (st k).H x, (st k).H.length, (st (k + 1)).H.length)
 | [], s, s', t, h => by
  simp only [traceOps, Option.some.injEq, Prod.mk.injEq] at h
  obtain ⟨rfl, rfl⟩ := h
  exact ⟨fun _ => s, rfl, rfl, rfl, fun k x hx => by simp at hx⟩
 | x :: l, s, s', t, h => by
  simp only [traceOps] at h
  split at h <;> first | (cases h; done) | skip
  rename_i s1 h1
  split at h <;> first | (cases h; done) | skip
  rename_i s2 t1 h2
  simp only [Option.some.injEq, Prod.mk.injEq] at h
  obtain ⟨rfl, rfl⟩ := h
  obtain ⟨st, a1, a2, a3, a4⟩ := trace_states h2
  refine ⟨fun k => match k with | 0 => s | k + 1 => st k, rfl, a2, by simp [a3], fun k y hy => ?_⟩
  cases k with
  | zero =>
   simp only [List.getElem?_cons_zero, Option.some.injEq] at hy; subst hy
   simp only [List.getElem?_cons_zero, a1]
   exact ⟨h1, trivial⟩
  | succ k =>
   simp only [List.getElem?_cons_succ] at hy ⊢
   exact a4 k y hy
theorem drawn_get {l : List XOper} {B : Array Nat} (h : drawnOk ops l B = true) {j : Nat} (hj : j < ops.size) : ∃ o b, ops[j]? = some o ∧ l[j]? = some b ∧ (∀ e ∈ o.after, Region.binds .any e = true → e.on < j) ∧
  ∀ i, i < j → ∃ a, l[i]? = some a ∧ (if unord B j i = true then slotApart a b = true else ∃ e ∈ o.after, Region.binds .any e = true ∧ (e.on = i ∨ (i < e.on ∧ unord B e.on i = false))) := by
 have := List.all_eq_true.1 h j (List.mem_range.2 hj)
 split at this <;> first | (cases this; done) | skip
 rename_i o b ho hb
 simp only [Bool.and_eq_true, List.all_eq_true, Array.all_eq_true_iff_forall_mem, Bool.or_eq_true, Bool.not_eq_true', decide_eq_true_eq] at this
 obtain ⟨h1, h2⟩ := this
 refine ⟨o, b, ho, hb, fun e he hb => (h1 e he).resolve_left (by simp [hb]), fun i hi => ?_⟩
 have := h2 i (List.mem_range.2 hi)
 split at this <;> first | (cases this; done) | skip
 rename_i a ha
 refine ⟨a, ha, ?_⟩
 split at this
 ·rename_i hu; rw [if_pos hu]; exact this
 ·rename_i hu
  rw [if_neg hu]
  simp only [Array.any_eq_true, Bool.and_eq_true, Bool.or_eq_true, beq_iff_eq, decide_eq_true_eq] at this
  obtain ⟨m, hm, hb1, hb2⟩ := this
  exact ⟨_, Array.getElem_mem hm, hb1, hb2.imp id (fun h => ⟨h.1, by simp only [unord]; simpa using h.2⟩)⟩
theorem drawn_before {l : List XOper} {B : Array Nat} (h : drawnOk ops l B = true) (p : Nat → Prop) (hp : ∀ k o, p k → ops[k]? = some o → ∀ e ∈ o.after, Region.binds .any e = true → p e.on) :
  ∀ (j : Nat), j < ops.size → ∀ o, ops[j]? = some o → (∀ e ∈ o.after, Region.binds .any e = true → p e.on) → ∀ i, i < j → unord B j i = false → p i := by
 intro j
 induction j using Nat.strongRecOn with
 | _ j ih =>
  intro hj o ho hr i hi hu
  obtain ⟨o', b, ho', hb, h1, h2⟩ := drawn_get h hj
  rw [ho] at ho'; injection ho' with ho'; subst ho'
  obtain ⟨a, ha, h3⟩ := h2 i hi
  rw [if_neg (by simp [hu])] at h3
  obtain ⟨e, he, hb1, hc⟩ := h3
  rcases hc with rfl | ⟨hlt, hu2⟩
  ·exact hr e he hb1
  ·have hej := h1 e he hb1
   have hsz : e.on < ops.size := by omega
   exact ih e.on hej hsz _ (Array.getElem?_eq_getElem hsz) (hp e.on _ (hr e he hb1) (Array.getElem?_eq_getElem hsz)) i hlt hu2
theorem slotApart_spec {x y : XOper} (h : slotApart x y = true) : (∀ d, x.dst = some d → d ∉ y.uses ∧ y.dst ≠ some d) ∧ (∀ d, y.dst = some d → d ∉ x.uses) := by
 simp only [slotApart, Bool.and_eq_true] at h
 obtain ⟨h1, h2⟩ := h
 refine ⟨fun d hd => ?_, fun d hd => ?_⟩
 ·rw [hd] at h1
  simpa using h1
 ·rw [hd] at h2
  simpa using h2
theorem parX_mem {l : List XOper} {B : Array Nat} {i j : Nat} {x y : XOper} (hi : i < j) (hj : l[j]? = some y) (hx : l[i]? = some x) (hu : unord B j i = true) (hr : (x.op.reads = true ∧ y.op.makes = true) ∨ (y.op.reads = true ∧ x.op.makes = true)) :
  (i, j) ∈ parX l B := by
 have hjl : j < l.length := (List.getElem?_eq_some_iff.1 hj).1
 refine List.mem_flatMap.2 ⟨j, List.mem_range.2 hjl, List.mem_filterMap.2 ⟨i, List.mem_range.2 hi, ?_⟩⟩
 rw [hx, hj]
 simp only
 rw [if_pos]
 simp only [hu, Bool.true_and, Bool.or_eq_true, Bool.and_eq_true]
 exact hr
def Turns (s s' : St) (x : XOper) (id : Nat) : Prop := id ∈ (runTouched s.env s.H x).2 ∨ (s.H.length ≤ id ∧ id < s'.H.length)
theorem runTouched_no {x : XOper} (h : x.op.reads = false) : runTouched env H x = ([], []) := by
 unfold runTouched
 split
 ·exact reads_no h
 ·split
  ·split
   ·exact reads_no h
   ·rfl
  ·rfl
theorem turns_no {x : XOper} {s s' : St} (h : x.op.makes = false) (hr : runOp cf x s = some s') (id : Nat) : ¬ Turns s s' x id := by
 have key : ∀ {H' av}, evalOp cf s.env s.H x.op = some (av, H') → H' = s.H ∧ (touched s.env s.H x.op).2 = [] := fun he => makes_no h he
 unfold Turns runTouched
 simp only [runOp] at hr
 split at hr
 ·rename_i hg
  split at hr <;> first | (cases hr; done) | skip
  rename_i v H hv
  injection hr with hr; subst hr
  obtain ⟨rfl, h2⟩ := key hv
  simp only [h2]
  rintro (h | h)
  ·cases h
  ·omega
 ·rename_i t want hg
  split at hr
  ·rename_i b hb
   simp only [hb]
   split at hr
   ·rename_i hw
    split at hr <;> first | (cases hr; done) | skip
    rename_i v H hv
    injection hr with hr; subst hr
    obtain ⟨rfl, h2⟩ := key hv
    rw [if_pos hw, h2]
    rintro (h | h)
    ·cases h
    ·simp only at h; omega
   ·rename_i hw
    injection hr with hr; subst hr
    rw [if_neg hw]
    rintro (h | h)
    ·cases h
    ·simp only at h; omega
  ·rename_i hb
   simp only [hb]
   injection hr with hr; subst hr
   rintro (h | h)
   ·cases h
   ·simp only at h; omega
  ·cases hr
theorem runTouched_sub {x : XOper} : ∀ i ∈ (runTouched env H x).2, i ∈ (runTouched env H x).1 := by
 intro i
 unfold runTouched
 split
 ·exact writes_reads i
 ·split
  ·split
   ·exact writes_reads i
   ·exact id
  ·exact id
theorem apartT_spec {s s' t t' : St} {x y : XOper} (h : apartT (runTouched s.env s.H x, s.H.length, s'.H.length) (runTouched t.env t.H y, t.H.length, t'.H.length) = true) :
  ∀ id ∈ (runTouched t.env t.H y).1, ¬ Turns s s' x id := by
 intro id hid
 have := List.all_eq_true.1 h id hid
 simp only [Bool.and_eq_true, Bool.not_eq_true', Bool.and_eq_false_iff, decide_eq_false_iff_not] at this
 obtain ⟨h1, h2⟩ := this
 rintro (h3 | ⟨h3, h4⟩)
 ·rw [List.contains_iff_mem.2 h3] at h1; cases h1
 ·rcases h2 with h2 | h2 <;> omega
theorem get_map (f : Nat → AV) (n : Nat) : ∀ l : List Nat, get (l.map fun n => (n, f n)) n = if n ∈ l then f n else .top
 | [] => rfl
 | m :: l => by
  simp only [List.map_cons, get]
  by_cases h : m = n
  ·subst h; rw [if_pos rfl, if_pos (by simp)]
  ·rw [if_neg h, get_map f n l]
   by_cases h2 : n ∈ l
   ·rw [if_pos h2, if_pos (by simp [h2])]
   ·rw [if_neg h2, if_neg (by simp [h2]; omega)]
theorem any_sound [DefL] (hcf : CFSound P cf) (h0 : RH C0 w0 (at_ H0)) {l : List XOper} {B : Array Nat} (hl : listM (operT P ops) ops.toList = some l) (hN : dstOk N l = true) (hd : drawnOk ops l B = true) {s s' : St} {t : List Trace}
  (ht : traceOps cf l s = some (s', t)) (hp : parOk (parX l B) t = true) (hQ : ∀ C a w, SR C0 w0 H0 N C a w s' → Q .normal a w) (hS : SR C0 w0 H0 N C a w s) :
  wpAny P .any ops Q ops.size (Array.replicate ops.size false) a w := by
 obtain ⟨hlen0, hget⟩ := listM_get hl
 have hlen : l.length = ops.size := by simpa using hlen0
 obtain ⟨st, hst0, hstn, htl, hst⟩ := trace_states ht
 rw [hlen] at hstn
 have hx : ∀ k, k < ops.size → ∃ o x, ops[k]? = some o ∧ l[k]? = some x ∧ operT P ops o = some x ∧ runOp cf x (st k) = some (st (k + 1)) ∧ t[k]? = some (runTouched (st k).env (st k).H x, (st k).H.length, (st (k + 1)).H.length) := fun k hk => by
  obtain ⟨x, h1, h2⟩ := hget k ops[k] (by simp [hk])
  exact ⟨ops[k], x, Array.getElem?_eq_getElem hk, h1, h2, hst k x h1⟩
 let WE : Nat → Nat → Prop := fun k n => ∃ x, l[k]? = some x ∧ x.dst = some n
 let WH : Nat → Nat → Prop := fun k id => ∃ x, l[k]? = some x ∧ Turns (st k) (st (k + 1)) x id
 let σE : Nat → Nat → AV := fun k n => get (st k).env n
 let σH : Nat → Nat → Option Blk := fun k id => (st k).H[id]?
 have hfE : ∀ k, k < ops.size → ∀ n, ¬ WE k n → σE (k + 1) n = σE k n := fun k hk n hn => by
  obtain ⟨o, x, _, h2, _, h4, _⟩ := hx k hk
  exact runOp_env h4 n (fun h => hn ⟨x, h2, h⟩)
 have hmono : ∀ k, k < ops.size → (st k).H.length ≤ (st (k + 1)).H.length := fun k hk => by
  obtain ⟨o, x, _, _, _, h4, _⟩ := hx k hk
  exact (runOp_heap h4).1
 have hfH : ∀ k, k < ops.size → ∀ id, ¬ WH k id → σH (k + 1) id = σH k id := fun k hk id hn => by
  obtain ⟨o, x, _, h2, _, h4, _⟩ := hx k hk
  have hh := runOp_heap h4
  by_cases hlt : id < (st k).H.length
  ·exact hh.2 id hlt (fun h => hn ⟨x, h2, .inl h⟩)
  ·have h2 : ¬ id < (st (k + 1)).H.length := fun h => hn ⟨x, h2, .inr ⟨by omega, h⟩⟩
   show (st (k + 1)).H[id]? = (st k).H[id]?
   rw [List.getElem?_eq_none (by omega), List.getElem?_eq_none (by omega)]
 have hmono2 : ∀ m k, k + m ≤ ops.size → (st k).H.length ≤ (st (k + m)).H.length := fun m => by
  induction m with
  | zero => intro k _; exact Nat.le_refl _
  | succ m ih => intro k hk; exact Nat.le_trans (ih k (by omega)) (hmono (k + m) (by omega))
 have hle : ∀ i j, i ≤ j → j ≤ ops.size → (st i).H.length ≤ (st j).H.length := fun i j h1 h2 => by
  have := hmono2 (j - i) i (by omega)
  rwa [show i + (j - i) = j by omega] at this
 have hap : ∀ i j x y, i < j → j < ops.size → l[i]? = some x → l[j]? = some y → unord B j i = true → slotApart x y = true ∧ (∀ id ∈ (runTouched (st j).env (st j).H y).1, ¬ WH i id) ∧ (∀ id ∈ (runTouched (st i).env (st i).H x).1, ¬ WH j id) := by
  intro i j x y hij hj hxi hyj hu
  obtain ⟨_, x', _, hx1, _, hx4, hx5⟩ := hx i (by omega)
  rw [hxi] at hx1; injection hx1 with hx1; subst hx1
  obtain ⟨_, y', _, hy1, _, hy4, hy5⟩ := hx j hj
  rw [hyj] at hy1; injection hy1 with hy1; subst hy1
  obtain ⟨_, b, _, hb, _, h2⟩ := drawn_get hd hj
  rw [hyj] at hb; injection hb with hb; subst hb
  obtain ⟨a', ha, h3⟩ := h2 i hij
  rw [hxi] at ha; injection ha with ha; subst ha
  rw [if_pos hu] at h3
  have hpair : (x.op.reads = true ∧ y.op.makes = true) ∨ (y.op.reads = true ∧ x.op.makes = true) → apartT (runTouched (st i).env (st i).H x, (st i).H.length, (st (i + 1)).H.length) (runTouched (st j).env (st j).H y, (st j).H.length, (st (j + 1)).H.length) = true ∧
    apartT (runTouched (st j).env (st j).H y, (st j).H.length, (st (j + 1)).H.length) (runTouched (st i).env (st i).H x, (st i).H.length, (st (i + 1)).H.length) = true := fun h => by
   have := List.all_eq_true.1 hp (i, j) (parX_mem hij hyj hxi hu h)
   simp only [hx5, hy5, Bool.and_eq_true] at this
   exact this
  refine ⟨h3, fun id hid ⟨z, hz, hT⟩ => ?_, fun id hid ⟨z, hz, hT⟩ => ?_⟩
  ·rw [hxi] at hz; injection hz with hz; subst hz
   cases h1 : y.op.reads with
   | false => rw [runTouched_no h1] at hid; cases hid
   | true => cases h2 : x.op.makes with
    | false => exact turns_no h2 hx4 id hT
    | true => exact apartT_spec (hpair (.inr ⟨h1, h2⟩)).1 id hid hT
  ·rw [hyj] at hz; injection hz with hz; subst hz
   cases h1 : x.op.reads with
   | false => rw [runTouched_no h1] at hid; cases hid
   | true => cases h2 : y.op.makes with
    | false => exact turns_no h2 hy4 id hT
    | true => exact apartT_spec (hpair (.inl ⟨h1, h2⟩)).2 id hid hT
 let Inv : (Nat → Prop) → Ctx → Act → World → Prop := fun b C a w => (∀ n, RV C w (a.tmps.getD n undef) (after σE WE b ops.size n)) ∧ RH C w (after σH WH b ops.size) ∧
  (∀ id, C.D id ↔ id < s.H.length ∨ ∃ k, k < ops.size ∧ b k ∧ (st k).H.length ≤ id ∧ id < (st (k + 1)).H.length) ∧ Cum C0 w0 H0 C w (after σH WH b ops.size) ∧ N ≤ a.tmps.size ∧ a.defers = DefL.ds ∧ GlR C w
 have fin : ∀ b C a w, (∀ k, k < ops.size → b k) → Inv b C a w → Q .normal a w := by
  intro b C a w hb ⟨h1, h2, h3, h4, h5, h6, h7⟩
  have eE : ∀ n, after σE WE b ops.size n = get s'.env n := fun n => by
   rw [after_agree hfE ops.size (Nat.le_refl _) (fun j hj _ => hb j hj)]
   show get (st ops.size).env n = _
   rw [hstn]
  have eH : after σH WH b ops.size = at_ s'.H := by
   funext id
   rw [after_agree hfH ops.size (Nat.le_refl _) (fun j hj _ => hb j hj)]
   show (st ops.size).H[id]? = _
   rw [hstn]; rfl
  have hgrow : ∀ m, m ≤ ops.size → ∀ id, s.H.length ≤ id → id < (st m).H.length → ∃ k, k < m ∧ (st k).H.length ≤ id ∧ id < (st (k + 1)).H.length := by
   intro m
   induction m with
   | zero => intro _ id h1 h2; rw [hst0] at h2; omega
   | succ m ih =>
    intro hm id h1 h2
    by_cases h : id < (st m).H.length
    ·obtain ⟨k, a, b⟩ := ih (by omega) id h1 h; exact ⟨k, by omega, b⟩
    ·exact ⟨m, by omega, by omega, h2⟩
  have hl0 : s.H.length ≤ s'.H.length := by have := hle 0 ops.size (by omega) (Nat.le_refl _); rwa [hst0, hstn] at this
  refine hQ C a w ⟨⟨fun n => eE n ▸ h1 n, h7⟩, eH ▸ h2, fun id => ?_, eH ▸ h4, Nat.le_trans hS.len hl0, h5, h6⟩
  rw [h3 id]
  constructor
  ·rintro (h | ⟨k, hk, _, _, h⟩)
   ·omega
   ·have := hle (k + 1) ops.size (by omega) (Nat.le_refl _); rw [hstn] at this; omega
  ·intro h
   by_cases hlt : id < s.H.length
   ·exact .inl hlt
   ·obtain ⟨k, hk, h1, h2⟩ := hgrow ops.size (Nat.le_refl _) id (by omega) (by rw [hstn]; exact h)
    exact .inr ⟨k, hk, hb k hk, h1, h2⟩
 have hready : ∀ listed : Array Bool, listed.size = ops.size → Region.ready .any ops listed = [] → ∀ k, k < ops.size → listed.getD k false = true := by
  intro listed hsz hr k
  induction k using Nat.strongRecOn with
  | _ k ih =>
   intro hk
   cases hlk : listed.getD k false with
   | true => rfl
   | false =>
    exfalso
    have : k ∈ Region.ready .any ops listed := by
     rw [mem_ready]
     obtain ⟨o, b, ho, _, h1, _⟩ := drawn_get hd hk
     refine ⟨?_, o, ho, fun e he hb => ih e.on (h1 e he hb) (by have := h1 e he hb; omega)⟩
     rw [Array.getD_eq_getD_getElem?] at hlk ⊢
     rw [Array.getElem?_eq_getElem (by omega)] at hlk ⊢
     exact hlk
    rw [hr] at this; cases this
 have none_left : ∀ listed : Array Bool, ((List.range ops.size).filter (fun k => !listed.getD k false)).length ≤ 0 → ∀ k, k < ops.size → listed.getD k false = true := fun listed h k hk => by
  have := List.eq_nil_of_length_eq_zero (Nat.le_zero.1 h)
  have := (List.filter_eq_nil_iff.1 this) k (List.mem_range.2 hk)
  simpa using this
 have walk : ∀ (fuel : Nat) (listed : Array Bool) (C : Ctx) (a : Act) (w : World), listed.size = ops.size →
   (∀ k o, listed.getD k false = true → ops[k]? = some o → ∀ e ∈ o.after, Region.binds .any e = true → listed.getD e.on false = true) →
   ((List.range ops.size).filter (fun k => !listed.getD k false)).length ≤ fuel → Inv (fun k => listed.getD k false = true) C a w → wpAny P .any ops Q fuel listed a w := by
  intro fuel
  induction fuel with
  | zero =>
   intro listed C a w hsz hcl hfu hI
   have h00 := none_left listed hfu
   refine ⟨?_, fin _ C a w h00 hI⟩
   refine List.eq_nil_iff_forall_not_mem.2 fun j hj => ?_
   rw [mem_ready] at hj
   obtain ⟨h1, o, ho, _⟩ := hj
   have hlt := (Array.getElem?_eq_some_iff.1 ho).1
   have := h00 j hlt
   rw [Array.getD_eq_getD_getElem?] at h1 this
   rw [Array.getElem?_eq_getElem (by omega)] at h1 this
   simp only [Option.getD_some] at h1 this
   rw [h1] at this; cases this
  | succ fuel ih =>
   intro listed C a w hsz hcl hfu hI
   refine ⟨fun hr => fin _ C a w (hready listed hsz hr) hI, fun i hi => ?_⟩
   rw [mem_ready] at hi
   obtain ⟨hi1, o, ho, hedge⟩ := hi
   have hin : i < ops.size := (Array.getElem?_eq_some_iff.1 ho).1
   have hbi : ¬ listed.getD i false = true := by
    rw [Array.getD_eq_getD_getElem?] at hi1 ⊢
    rw [Array.getElem?_eq_getElem (by omega)] at hi1 ⊢
    simp only [Option.getD_some] at hi1 ⊢
    simp [hi1]
   obtain ⟨o', x, ho', hxl, hox, hrun, _⟩ := hx i hin
   rw [ho] at ho'; injection ho' with ho'; subst ho'
   have hun1 : ∀ j, j < i → ¬ listed.getD j false = true → unord B i j = true := fun j hj hb => by
    cases h : unord B i j with
    | true => rfl
    | false => exact absurd (drawn_before hd (fun k => listed.getD k false = true) hcl i hin o ho hedge j hj h) hb
   have hun2 : ∀ j, i < j → j < ops.size → listed.getD j false = true → unord B j i = true := fun j hj hjn hb => by
    cases h : unord B j i with
    | true => rfl
    | false => exact absurd (drawn_before hd (fun k => listed.getD k false = true) hcl j hjn _ (Array.getElem?_eq_getElem hjn) (hcl j _ hb (Array.getElem?_eq_getElem hjn)) i hj h) hbi
   obtain ⟨hI1, hI2, hI3, hI4, hI5, hI6, hI7⟩ := hI
   have huse : ∀ n ∈ x.uses, get (st i).env n = after σE WE (fun k => listed.getD k false = true) ops.size n := fun n hn => by
    refine (after_read hfE hin hbi (fun j hj hW => ?_) (fun j hj hjn hb hW => ?_)).symm
    ·obtain ⟨z, hz, hzd⟩ := hW
     cases hb : listed.getD j false with
     | true => rfl
     | false => exact absurd hn ((slotApart_spec (hap j i z x hj hin hz hxl (hun1 j hj (by simp [hb]))).1).1 n hzd).1
    ·obtain ⟨z, hz, hzd⟩ := hW
     exact (slotApart_spec (hap i j x z hj hjn hxl hz (hun2 j hj hjn hb)).1).2 n hzd hn
   let env2 : Env := x.uses.map fun n => (n, after σE WE (fun k => listed.getD k false = true) ops.size n)
   have henv2 : EnvR C w a env2 := ⟨fun n => by
    show RV C w _ (get (x.uses.map _) n)
    rw [get_map]
    split
    ·exact hI1 n
    ·exact .top _, hI7⟩
   have huse2 : ∀ n ∈ x.uses, get (st i).env n = get env2 n := fun n hn => by
    show _ = get (x.uses.map _) n
    rw [get_map, if_pos hn]; exact huse n hn
   obtain ⟨s2, hrun2, hs2H, hs2d, hrt⟩ := runOp_uses (env := (st i).env) (env' := env2) (H := (st i).H) huse2 (s' := st (i + 1)) hrun
   have hreadH : ∀ id ∈ (runTouched (st i).env (st i).H x).1, after σH WH (fun k => listed.getD k false = true) ops.size id = (st i).H[id]? := fun id hid => by
    refine after_read hfH hin hbi (fun j hj hW => ?_) (fun j hj hjn hb => ?_)
    ·obtain ⟨z, hz, hzt⟩ := hW
     cases hb : listed.getD j false with
     | true => rfl
     | false => exact absurd ⟨z, hz, hzt⟩ ((hap j i z x hj hin hz hxl (hun1 j hj (by simp [hb]))).2.1 id hid)
    ·obtain ⟨_, z, _, hz, _⟩ := hx j hjn
     exact (hap i j x z hj hjn hxl hz (hun2 j hj hjn hb)).2.2 id hid
   have hturn2 : ∀ id, WH i id → ∀ j, i < j → j < ops.size → listed.getD j false = true → ¬ WH j id := fun id hW j hj hjn hb hWj => by
    obtain ⟨_, z, _, hz, _⟩ := hx j hjn
    have hA := hap i j x z hj hjn hxl hz (hun2 j hj hjn hb)
    obtain ⟨z', hz', hT⟩ := hW
    rw [hxl] at hz'; injection hz' with hz'; subst hz'
    obtain ⟨z', hz', hTj⟩ := hWj
    rw [hz] at hz'; injection hz' with hz'; subst hz'
    rcases hT with hT | hT
    ·exact hA.2.2 id (runTouched_sub id hT) ⟨z, hz, hTj⟩
    ·rcases hTj with hTj | hTj
     ·exact hA.2.1 id (runTouched_sub id hTj) ⟨x, hxl, .inr hT⟩
     ·have := hle (i + 1) j (by omega) (by omega); omega
   rw [hrt.symm] at hreadH
   have hdst : x.dst = o.dst := by
    simp only [operT, Option.bind_eq_bind, Option.bind_eq_some_iff] at hox
    obtain ⟨xo, _, hox⟩ := hox
    split at hox
    ·injection hox with hox; subst hox; rfl
    ·simp only [Option.bind_eq_some_iff, Option.some.injEq] at hox
     obtain ⟨_, _, _, _, rfl⟩ := hox; rfl
   refine op_sound hcf ho hox hrun2 henv2 hI2 hreadH (fun id h1 h2 hD => ?_) fun C' w' v hV hL => ?_
   ·rw [hs2H] at h2
    rcases (hI3 id).1 hD with h | ⟨k, hk, hbk, h3, h4⟩
    ·have := hle 0 i (by omega) (by omega); rw [hst0] at this; omega
    ·rcases Nat.lt_trichotomy k i with hki | rfl | hki
     ·have := hle (k + 1) i (by omega) (by omega); omega
     ·exact hbi hbk
     ·have := hle (i + 1) k (by omega) (by omega); omega
   rw [hs2H, hrt] at hL
   have hb' : (fun k => (listed.setIfInBounds i true).getD k false = true) = (fun k => listed.getD k false = true ∨ k = i) := by
    funext k
    refine propext ⟨fun h => ?_, fun h => ?_⟩
    ·by_cases e : k = i
     ·exact .inr e
     ·rw [getD_set_ne false (Ne.symm e)] at h; exact .inl h
    ·rcases h with h | rfl
     ·exact getD_set_true h
     ·simp [Array.getD, hsz, hin]
   refine ih _ C' _ w' (by simpa using hsz) (fun k ok hk hok e he hb => ?_) ?_ ?_
   ·by_cases e1 : k = i
    ·subst e1
     rw [ho] at hok; injection hok with hok; subst hok
     exact getD_set_true (hedge e he hb)
    ·rw [getD_set_ne false (Ne.symm e1)] at hk
     exact getD_set_true (hcl k ok hk hok e he hb)
   ·have : (List.range ops.size).filter (fun k => !(listed.setIfInBounds i true).getD k false) = ((List.range ops.size).filter (fun k => !listed.getD k false)).filter (fun k => k != i) := by
     rw [List.filter_filter]
     refine List.filter_congr fun k _ => ?_
     have := congrFun hb' k
     simp only [eq_iff_iff] at this
     cases h1 : (listed.setIfInBounds i true).getD k false <;> cases h2 : listed.getD k false <;> simp_all
    rw [this]
    have hlt := (List.length_filter_lt_length_iff_exists (p := fun k => k != i) (l := (List.range ops.size).filter (fun k => !listed.getD k false))).2 ⟨i, List.mem_filter.2 ⟨List.mem_range.2 hin, by simpa using hbi⟩, by simp⟩
    omega
   ·rw [hb']
    have hU : upd (after σH WH (fun k => listed.getD k false = true) ops.size) (st i).H (st (i + 1)).H (runTouched (st i).env (st i).H x).2 = after σH WH (fun k => listed.getD k false = true ∨ k = i) ops.size := by
     funext id
     unfold upd
     split
     ·rename_i hT
      exact (after_add (σ := σH) hin ⟨x, hxl, hT⟩ (fun j hj hjn hb => hturn2 id ⟨x, hxl, hT⟩ j hj hjn hb)).symm
     ·rename_i hT
      have : ¬ WH i id := fun ⟨z, hz, hzt⟩ => by
       rw [hxl] at hz; injection hz with hz; subst hz
       exact hT hzt
      exact (after_add_not this _).symm
    have hEn : ∀ n, x.dst ≠ some n → after σE WE (fun k => listed.getD k false = true ∨ k = i) ops.size n = after σE WE (fun k => listed.getD k false = true) ops.size n := fun n hn => by
     have : ¬ WE i n := fun ⟨z, hz, hzd⟩ => by
      rw [hxl] at hz; injection hz with hz; subst hz
      exact hn hzd
     exact after_add_not this _
    have hEd : ∀ d, x.dst = some d → RV C' w' v (after σE WE (fun k => listed.getD k false = true ∨ k = i) ops.size d) := fun d hd => by
     rw [after_add (σ := σE) hin ⟨x, hxl, hd⟩ (fun j hj hjn hb ⟨z, hz, hzd⟩ => ((slotApart_spec (hap i j x z hj hjn hxl hz (hun2 j hj hjn hb)).1).1 d hd).2 hzd)]
     show RV C' w' v (get (st (i + 1)).env d)
     rw [← hs2d d hd]; exact hV d hd
    refine ⟨envR_put hI1 hL.keeps (fun d hd => ⟨Nat.lt_of_lt_of_le (dstOk_get hN hxl hd) hI5, hEd d hd⟩) hEn, hU ▸ hL.heap hI2, fun id => ?_, hU ▸ hI4.step h0 hI2 hL, by rw [tmps_put]; exact hI5, by rw [defers_put]; exact hI6, hI7.keeps hL.keeps⟩
    rw [hL.dom id, hI3 id]
    constructor
    ·rintro ((h | ⟨k, hk, hb, h⟩) | h)
     ·exact .inl h
     ·exact .inr ⟨k, hk, .inl hb, h⟩
     ·exact .inr ⟨i, hin, .inr rfl, h⟩
    ·rintro (h | ⟨k, hk, hb, h⟩)
     ·exact .inl (.inl h)
     ·rcases hb with hb | rfl
      ·exact .inl (.inr ⟨k, hk, hb, h⟩)
      ·exact .inr h
 have hno : ∀ k, (Array.replicate ops.size false).getD k false = false := fun k => by
  rw [Array.getD_eq_getD_getElem?, Array.getElem?_replicate]; split <;> rfl
 have hnb : (fun k => (Array.replicate ops.size false).getD k false = true) = fun _ => False := by funext k; rw [hno k]; simp
 have h00 : ∀ {ι α : Type} (σ : Nat → ι → α) (W : Nat → ι → Prop) (m : Nat) (x : ι), after σ W (fun _ => False) m x = σ 0 x := fun σ W m x => by
  have := after_stop (σ := σ) (W := W) (b := fun _ => False) (x := x) (k := 0) m (fun _ _ _ h => h.elim)
  rwa [Nat.zero_add] at this
 have hH0 : after σH WH (fun _ => False) ops.size = at_ s.H := by
  funext id; rw [h00]; show (st 0).H[id]? = _; rw [hst0]; rfl
 refine walk ops.size _ C a w (by simp) (fun k o h => by rw [hno k] at h; cases h) (by have := List.length_filter_le (fun k => !(Array.replicate ops.size false).getD k false) (List.range ops.size); simpa using this) ?_
 rw [hnb]
 refine ⟨fun n => ?_, hH0 ▸ hS.heap, fun id => ?_, hH0 ▸ hS.cum, hS.tmps, hS.defers, hS.env.gl⟩
 ·rw [h00]; show RV C w _ (get (st 0).env n); rw [hst0]; exact hS.env n
 ·rw [hS.dom id]
  exact ⟨.inl, fun h => h.elim _root_.id (fun ⟨_, _, h, _⟩ => h.elim)⟩
end Go.Ax
