/-
  Ax, text 10: variables, slices made.
-/
import Derived.Test.YtponcchkfmbicaaXMem
import Derived.Laws.MakeOwn
namespace Go.Ax
set_option linter.unusedSectionVars false
open Go.RowKit

variable [Gls]
variable {id e sz : Nat} {fl fz : Bool} {xs : List Dat}
variable {P : Program} {C C' : Ctx} {w w' : World} {a : Act} {env : Env} {H H' : List Blk} {cf : CallF} {av : AV} {o : Oper} {xo : XOp} {Hp : Nat → Option Blk}

/-- The operation runs to a value, or to none ('undef' in its place). -/
def Runs (P : Program) (o : Oper) (a : Act) (w : World) (v : Value) (w' : World) : Prop :=
  (execOp a.eval o).run P w = .ok (.value v) w' ∨ ((execOp a.eval o).run P w = .ok .skip w' ∧ v = undef)

def MemOk (P : Program) (C : Ctx) (w : World) (a : Act) (o : Oper) (Hp : Nat → Option Blk) (H H' : List Blk) (wr : List Nat) (av : AV) : Prop :=
  ∃ v w' C', Runs P o a w v w' ∧ RV C' w' v av ∧ Local C C' w w' H H' Hp wr

open Classical in
noncomputable def ctxNew (C : Ctx) (H : List Blk) (ids : List Nat) (l : Loc) (sz : Nat) : Ctx where
  ρ i := if i = H.length then l else C.ρ i
  sz i := if i = H.length then sz else C.sz i
  D i := C.D i ∨ i = H.length
  Fz k := C.Fz k ∨ ∃ i ∈ ids, ∃ b, H[i]? = some b ∧ Lies b (C.ρ i) k

theorem ctxNew_keeps (hH : RH C w Hp) (ids : List Nat) (l : Loc) (sz : Nat) (hN : ¬ C.D H.length) (hs : ∀ k, k < w.heap.size → w'.heap[k]? = w.heap[k]?) : Keeps C (ctxNew C H ids l sz) w w' :=
  ⟨fun _ h => .inl h, fun b hb => hs b (hH.lt b hb), fun _ h => .inl h, fun i hi => if_neg (fun e => hN (by rw [← e]; exact hi)), fun i hi => if_neg (fun e => hN (by rw [← e]; exact hi))⟩

/-- One new block, of the call's own. -/
theorem Local.new1 (hH : RH C w Hp) (ids : List Nat) (b : Blk) (l : Loc) (sz : Nat) (obj : Obj)
    (hids : ∀ i ∈ ids, ∃ e sz fl fz xs, H[i]? = some (.arr e sz fl fz xs)) (hHp : ∀ i ∈ ids, Hp i = H[i]?) (hN : ¬ C.D H.length)
    (hblk : RB (ctxNew C H ids l sz) (w.alloc obj) H.length b) (hl : ∀ k, Lies b l k → w.heap.size ≤ k) :
    Local C (ctxNew C H ids l sz) w (w.alloc obj) H (freeze ids H ++ [b]) Hp ids := by
  have hs : ∀ k, k < w.heap.size → (w.alloc obj).heap[k]? = w.heap[k]? := fun k hk => heap_alloc_old w obj k hk
  refine Local.ext hH ids [b] (fun _ => False) hids hHp (ctxNew_keeps (w' := w) hH ids l sz hN (fun _ _ => rfl)).rho (ctxNew_keeps (w' := w) hH ids l sz hN (fun _ _ => rfl)).siz
    (fun i => ?_) (fun k => ?_) rfl rfl rfl (by simp) hs (fun _ h => h.elim) (fun j b' hb => ?_) (fun j b' k hb hk => ?_) (fun i j b1 b2 k hi hj _ _ => ?_)
  · simp only [ctxNew, List.length_cons, List.length_nil]
    constructor
    · rintro (h | h)
      · exact .inl h
      · exact .inr ⟨by omega, by omega⟩
    · rintro (h | h)
      · exact .inl h
      · exact .inr (by omega)
  · simp only [ctxNew]
    constructor
    · rintro (h | h)
      · exact .inl h
      · exact .inr (.inl h)
    · rintro (h | h | h)
      · exact .inl h
      · exact .inr h
      · exact h.2.elim
  · cases j with
    | zero => simp only [List.getElem?_cons_zero, Option.some.injEq] at hb; subst hb; exact hblk
    | succ j => simp at hb
  · cases j with
    | zero =>
      simp only [List.getElem?_cons_zero, Option.some.injEq] at hb; subst hb
      refine hl k ?_
      simpa [ctxNew] using hk
    | succ j => simp at hb
  · cases i with
    | zero => cases j with
      | zero => rfl
      | succ j => simp at hj
    | succ i => simp at hi

theorem newBox (hH : RH C w Hp) (hN : ¬ C.D H.length) {cs : List AV} {c : Array Value} {t : TypeId} (hR : RL C w c.toList cs) (h1 : ∀ u ∈ c.toList, u.oneCell' = true) :
    ∃ C', Local C C' w (w.alloc (.cells c t)) H (H ++ [.box cs]) Hp [] ∧ RV C' (w.alloc (.cells c t)) (.pointer (some ⟨w.heap.size, 0, none⟩)) (.ptr H.length 0) := by
  refine ⟨ctxNew C H [] (.box w.heap.size) 0, ?_, .ptr _ _ _ (.inr rfl) (by simp [ctxNew])⟩
  have hK : Keeps C (ctxNew C H [] (.box w.heap.size) 0) w (w.alloc (.cells c t)) := ctxNew_keeps hH _ _ _ hN (fun k hk => heap_alloc_old w _ k hk)
  have := Local.new1 (H := H) hH [] (.box cs) (.box w.heap.size) 0 (.cells c t) (fun i hi => by cases hi) (fun i hi => by cases hi) hN ?_ (fun k hk => by simp only [Lies] at hk; omega)
  · rwa [freeze_nil] at this
  · refine .box cs w.heap.size c t (by simp [ctxNew]) (heap_alloc_new w _) (by simpa using hR.1) ?_ (fun j v av hv hav => (hR.2 j v av (by simpa using hv) hav).keeps hK) (fun j v hv => h1 v ?_)
    · rintro (h | ⟨i, hi, _⟩)
      · have := hH.lt _ h; omega
      · cases hi
    · have hv' : c.toList[j]? = some v := by simpa using hv
      exact List.mem_of_getElem? hv'

theorem alloc_sound {t : TypeId} (hop : o.op = .alloc t) (ht : opT P o = some xo) (he : evalOp cf env H xo = some (av, H')) (hH : RH C w Hp) (hN : ¬ C.D H.length) :
    MemOk P C w a o Hp H H' [] av := by
  simp only [opT, hop, Option.map_eq_some_iff] at ht
  obtain ⟨z, hz, rfl⟩ := ht
  simp only [evalOp, Option.some.injEq, Prod.mk.injEq] at he
  obtain ⟨rfl, rfl⟩ := he
  obtain ⟨i, v, hi, hzv, hR, h1⟩ := zeroC_sound (C := C) (w := w) hz
  obtain ⟨C', hL, hV⟩ := newBox (t := t) hH hN hR h1
  exact ⟨_, _, C', .inl (by simp [execOp, hop, Instr.alloc, run_zero hi hzv, newVar, newRow]), hV, hL⟩

theorem box_sound {t : TypeId} {x : Operand} (hop : o.op = .box t x) (ht : opT P o = some xo) (he : evalOp cf env H xo = some (av, H')) (hE : EnvR C w a env) (hH : RH C w Hp) (hN : ¬ C.D H.length) :
    MemOk P C w a o Hp H H' [] av := by
  simp only [opT, hop, Option.map_eq_some_iff] at ht
  obtain ⟨x', hx, rfl⟩ := ht
  simp only [evalOp] at he
  split at he <;> first | (cases he; done) | skip
  rename_i h1
  simp only [Option.some.injEq, Prod.mk.injEq] at he
  obtain ⟨rfl, rfl⟩ := he
  obtain ⟨hR, hone⟩ := (operand_sound hx hE).cells_one h1
  obtain ⟨C', hL, hV⟩ := newBox (t := t) hH hN hR hone
  exact ⟨_, _, C', .inl (by simp [execOp, hop, Instr.box, newVar, newRow]), hV, hL⟩

/-! ### data out of abstract values -/
theorem arr_getD {c : Array Value} {k : Nat} {u : Value} (h : c[k]? = some u) : c.getD k undef = u := by simp [Array.getD_eq_getD_getElem?, h]
/-- A slice of an own array reads as data, its block being frozen. -/
theorem own_RD (hB : RB C w id (.arr e sz fl fz xs)) {off len : Nat} (hle : off + len ≤ xs.length) {F : Nat → Prop} (hF : ∀ k, C.Fz k → F k) (hl : ∀ k, Lies (.arr e sz fl fz xs) (C.ρ id) k → F k) {v : Value}
    (hv : RV C w v (.own id off len)) : RD F w v (.sl sz fl ((xs.drop off).take len)) := by
  have hlen : ((xs.drop off).take len).length = len := by rw [List.length_take, List.length_drop]; omega
  by_cases h0 : len = 0
  · subst h0
    rw [List.take_zero]
    cases hv <;> exact .sl0 _ _ _ _ (fun h => by first | rfl | cases h)
  cases hB with
  | arr0 => simp at hle; omega
  | arr _ _ _ _ _ g cap c hρ' hz hz0 hbk hc hlx hcap hFz hs hfl hcell =>
    cases hv with
    | own0 => omega
    | own _ _ _ g' cap' hD hρ hle' =>
      rw [hρ] at hρ'; injection hρ' with e1 e2; subst e1; subst e2
      have hsub : ∀ x ∈ (xs.drop off).take len, x ∈ xs := fun x hx => List.mem_of_mem_drop (List.mem_of_mem_take hx)
      have hflat : flatten ((xs.drop off).take len) = ((flatten xs).drop (off * sz)).take (len * sz) := by
        rw [flatten_take (sz := sz) _ (fun x hx => hs x (List.mem_of_mem_drop hx)), flatten_drop _ hs]
      have hget : ∀ (k : Nat) (d : Dat), (flatten ((xs.drop off).take len))[k]? = some d → (flatten xs)[off * sz + k]? = some d := by
        intro k d hk
        rw [hflat, List.getElem?_take] at hk
        split at hk
        · rwa [List.getElem?_drop] at hk
        · cases hk
      have := RD.sl (Fz := F) (w := w) ⟨g', off * C.sz id, none⟩ (cap' - off) sz fl ((xs.drop off).take len) (fun k => c.getD (off * sz + k) undef) (fun e => by rw [e] at hlen; simp at hlen; omega)
        (hl g' (by rw [hρ]; rfl)) (by rw [hlen]; omega) (fun x hx => hs x (hsub x hx)) (fun h x hx => hfl h x (hsub x hx)) (fun k d hk => ?_) (fun k d hk => ?_)
      · rwa [hlen] at this
      · obtain ⟨u, h1, h2, h3⟩ := hcell _ d (hget k d hk)
        rw [mk_add, hz, cell_of_row w g' _ c _ (0, 0) hbk]
        rw [arr_getD h1]
        exact ⟨h1, h3⟩
      · obtain ⟨u, h1, h2, h3⟩ := hcell _ d (hget k d hk)
        simp only [arr_getD h1]
        exact h2.keeps hF (fun _ _ => rfl)

mutual
theorem toDat_sound (hH : RH C w Hp) (F : Nat → Prop) (hF : ∀ k, C.Fz k → F k) : ∀ (x : AV) (d : Dat), x.toDat H = some d → (∀ i ∈ x.refs, Hp i = H[i]?) →
    (∀ i ∈ x.refs, ∀ b k, H[i]? = some b → Lies b (C.ρ i) k → F k) → ∀ v, RV C w v x → RD F w v d
  | .dat d', d, h, hHp, hl, v, hv => by
    simp only [AV.toDat, Option.some.injEq] at h; subst h
    cases hv with | dat hv => exact hv.keeps hF (fun _ _ => rfl)
  | .nil e sz fl, d, h, hHp, hl, v, hv => by
    simp only [AV.toDat, Option.some.injEq] at h; subst h
    cases hv; exact .sl0 _ _ _ _ (fun _ => rfl)
  | .own id off len, d, h, hHp, hl, v, hv => by
    simp only [AV.toDat] at h
    split at h <;> first | (cases h; done) | skip
    rename_i e sz fl fz xs hb
    split at h <;> first | (cases h; done) | skip
    rename_i hle
    simp only [Option.some.injEq] at h; subst h
    have hp := (hHp id (by simp [AV.refs])).trans hb
    exact own_RD (hH.blk id _ hp) hle hF (fun k hk => hl id (by simp [AV.refs]) _ k hb hk) hv
  | .agg cs, d, h, hHp, hl, v, hv => by
    simp only [AV.toDat, Option.map_eq_some_iff] at h
    obtain ⟨ds, hds, rfl⟩ := h
    cases hv with
    | agg vs _ hn hc =>
      have := toDatL_sound hH F hF cs ds hds (fun i hi => hHp i (by simpa [AV.refs] using hi)) (fun i hi => hl i (by simpa [AV.refs] using hi)) vs.toList ⟨by simpa using hn, fun j u x hu hx => hc j x u hx (by simpa using hu)⟩
      exact .agg vs ds (by simpa using this.1) (fun j d v hd hv => this.2 j v d (by simpa using hv) hd)
  | .ptr _ _, d, h, _, _, _, _ => by simp [AV.toDat] at h
  | .eptr _ _ _, d, h, _, _, _, _ => by simp [AV.toDat] at h
  | .dptr _, d, h, _, _, _, _ => by simp [AV.toDat] at h
  | .tup _, d, h, _, _, _, _ => by simp [AV.toDat] at h
  | .fn _ _ _, d, h, _, _, _, _ => by simp [AV.toDat] at h
  | .top, d, h, _, _, _, _ => by simp [AV.toDat] at h
theorem toDatL_sound (hH : RH C w Hp) (F : Nat → Prop) (hF : ∀ k, C.Fz k → F k) : ∀ (l : List AV) (ds : List Dat), AV.toDatL H l = some ds → (∀ i ∈ AV.refsL l, Hp i = H[i]?) →
    (∀ i ∈ AV.refsL l, ∀ b k, H[i]? = some b → Lies b (C.ρ i) k → F k) → ∀ us, RL C w us l → us.length = ds.length ∧ ∀ (j : Nat) (u : Value) (d : Dat), us[j]? = some u → ds[j]? = some d → RD F w u d
  | [], ds, h, hHp, hl, us, hR => by
    simp only [AV.toDatL, Option.some.injEq] at h; subst h
    exact ⟨by simpa using hR.1, fun j u d _ hd => by simp at hd⟩
  | x :: l, ds, h, hHp, hl, us, hR => by
    simp only [AV.toDatL] at h
    split at h <;> first | (cases h; done) | skip
    rename_i d hd
    split at h <;> first | (cases h; done) | skip
    rename_i r hr
    simp only [Option.some.injEq] at h; subst h
    cases us with
    | nil => have := hR.1; simp at this
    | cons u us =>
      have h1 := toDat_sound hH F hF x d hd (fun i hi => hHp i (by simp [AV.refsL, hi])) (fun i hi => hl i (by simp [AV.refsL, hi])) u (hR.2 0 u x rfl rfl)
      have h2 := toDatL_sound hH F hF l r hr (fun i hi => hHp i (by simp [AV.refsL, hi])) (fun i hi => hl i (by simp [AV.refsL, hi])) us (by simpa using hR.drop 1)
      refine ⟨by simp [h2.1], fun j v q hv hq => ?_⟩
      cases j with
      | zero => simp at hv hq; subst hv; subst hq; exact h1
      | succ j => exact h2.2 j v q (by simpa using hv) (by simpa using hq)
end


/-! ### new arrays -/
/-- A new array of the call's own. -/
theorem newArr (hH : RH C w Hp) (hN : ¬ C.D H.length) (ids : List Nat) (hids : ∀ i ∈ ids, ∃ e sz fl fz xs, H[i]? = some (.arr e sz fl fz xs)) (hHp : ∀ i ∈ ids, Hp i = H[i]?)
    {c : Array Value} {n cap : Nat} (hz0 : 0 < sz) (hc : c.size = cap * sz) (hn : xs.length = n) (hl : n ≤ cap) (hcap : cap ≤ maxLen) (hs : ∀ x ∈ xs, x.cells.length = sz) (hfl : fl = true → ∀ x ∈ xs, x.flat = true)
    (hcell : ∀ (k : Nat) (d : Dat), (flatten xs)[k]? = some d → ∃ v : Value, c[k]? = some v ∧ RD (fun k => C.Fz k ∨ ∃ i ∈ ids, ∃ b, H[i]? = some b ∧ Lies b (C.ρ i) k) w v d ∧ v.oneCell' = true) :
    ∃ C', Local C C' w (w.alloc (.cells c e)) H (freeze ids H ++ [.arr e sz fl false xs]) Hp ids ∧ RV C' (w.alloc (.cells c e)) (.slice (some ⟨w.heap.size, 0, none⟩) n cap) (.own H.length 0 n) := by
  have hK : Keeps C (ctxNew C H ids (.arr w.heap.size cap) sz) w (w.alloc (.cells c e)) := ctxNew_keeps hH _ _ _ hN (fun k hk => heap_alloc_old w _ k hk)
  refine ⟨ctxNew C H ids (.arr w.heap.size cap) sz, ?_, ?_⟩
  · have hltF : ∀ k, (C.Fz k ∨ ∃ i ∈ ids, ∃ b, H[i]? = some b ∧ Lies b (C.ρ i) k) → k < w.heap.size := by
      rintro k (h | ⟨i, hi, b, hb, hl⟩)
      · exact hH.lt _ h
      · exact (hH.blk i b ((hHp i hi).trans hb)).lies_lt hl
    refine Local.new1 (H := H) hH ids _ (.arr w.heap.size cap) sz (.cells c e) hids hHp hN ?_ (fun k hk => by simp only [Lies] at hk; omega)
    refine .arr e sz fl false xs w.heap.size cap c (by simp [ctxNew]) (by simp [ctxNew]) hz0 (heap_alloc_new w _) hc (by omega) hcap ⟨fun h => ?_, fun h => by cases h⟩ hs hfl (fun k d hk => ?_)
    · exact absurd (hltF _ h) (by omega)
    · obtain ⟨v, h1, h2, h3⟩ := hcell k d hk
      exact ⟨v, h1, h2.keeps (fun _ h => h) (fun b hb => heap_alloc_old w _ b (hltF b hb)), h3⟩
  · have := RV.own (C := ctxNew C H ids (.arr w.heap.size cap) sz) (w := w.alloc (.cells c e)) H.length 0 n w.heap.size cap (.inr rfl) (by simp [ctxNew]) (by omega)
    simpa using this

theorem chunks_cells {z : Nat} : ∀ (n : Nat) (ds : List Dat), ds.length = n * z → (∀ d ∈ ds, d.leaf = true) → 0 < z → (∀ x ∈ chunks z n ds, x.cells.length = z) ∧ flatten (chunks z n ds) = ds ∧ (chunks z n ds).length = n
  | 0, ds, h, _, _ => by
    have : ds = [] := List.eq_nil_of_length_eq_zero (by omega)
    subst this
    exact ⟨fun x hx => (by cases hx), rfl, rfl⟩
  | n + 1, ds, h, hl, hz => by
    rw [Nat.succ_mul] at h
    obtain ⟨h1, h2, h3⟩ := chunks_cells n (ds.drop z) (by rw [List.length_drop]; omega) (fun d hd => hl d (List.mem_of_mem_drop hd)) hz
    have hfirst : (if z = 1 then ds.headD default else Dat.agg (ds.take z)).cells = ds.take z := by
      split
      · rename_i h1; subst h1
        cases ds with
        | nil => simp at h
        | cons d ds =>
          have := hl d List.mem_cons_self
          cases d <;> first | rfl | (simp [Dat.leaf] at this; done)
      · rfl
    refine ⟨fun x hx => ?_, ?_, by simp [chunks, h3]⟩
    · rcases List.mem_cons.1 hx with rfl | hx
      · rw [hfirst, List.length_take]; omega
      · exact h1 x hx
    · rw [chunks, flatten_cons, hfirst, h2, List.take_append_drop]

theorem leaf_of_one {F : Nat → Prop} {v : Value} {d : Dat} (h : RD F w v d) (h1 : v.oneCell' = true) : d.leaf = true := by
  cases h <;> first | rfl | (simp [Value.oneCell'] at h1; done)

theorem flats_mem : ∀ {ds : List Dat}, Dat.flats ds = true → ∀ d ∈ ds, d.flat = true
  | d :: ds, h, x, hx => by
    simp only [Dat.flats, Bool.and_eq_true] at h
    rcases List.mem_cons.1 hx with rfl | hx
    · exact h.1
    · exact flats_mem h.2 x hx
theorem flats_of : ∀ {ds : List Dat}, (∀ d ∈ ds, d.flat = true) → Dat.flats ds = true
  | [], _ => rfl
  | d :: ds, h => by simp only [Dat.flats, Bool.and_eq_true]; exact ⟨h d List.mem_cons_self, flats_of (fun x hx => h x (List.mem_cons_of_mem _ hx))⟩
theorem flat_of_cells {x : Dat} (h : ∀ d ∈ x.cells, d.flat = true) : x.flat = true := by
  cases x with
  | agg cs => simp only [Dat.flat]; exact flats_of h
  | _ => exact h _ (by simp [Dat.cells])
theorem chunks_flat {z : Nat} : ∀ (n : Nat) (ds : List Dat), (∀ d ∈ ds, d.flat = true) → ds.length = n * z → 0 < z → ∀ x ∈ chunks z n ds, x.flat = true
  | 0, _, _, _, _, x, hx => by cases hx
  | n + 1, ds, h, hl, hz, x, hx => by
    rw [Nat.succ_mul] at hl
    rcases List.mem_cons.1 hx with rfl | hx
    · split
      · cases ds with
        | nil => simp at hl; omega
        | cons d ds => exact h d List.mem_cons_self
      · simp only [Dat.flat]; exact flats_of (fun d hd => h d (List.mem_of_mem_take hd))
    · exact chunks_flat n (ds.drop z) (fun d hd => h d (List.mem_of_mem_drop hd)) (by rw [List.length_drop]; omega) hz x hx


theorem getElem?_rep {α : Type} (l : List α) : ∀ (n k : Nat), ((List.replicate n l).flatten)[k]? = if k < n * l.length then l[k % l.length]? else none
  | 0, k => by simp
  | n + 1, k => by
    rw [List.replicate_succ, List.flatten_cons, Nat.succ_mul]
    by_cases h : k < l.length
    · rw [List.getElem?_append_left h, if_pos (by omega), Nat.mod_eq_of_lt h]
    · rw [List.getElem?_append_right (by omega), getElem?_rep l n]
      by_cases h2 : k < n * l.length + l.length
      · rw [if_pos (by omega), if_pos h2, ← Nat.mod_eq_sub_mod (by omega)]
      · rw [if_neg (by omega), if_neg h2]

theorem made_list (z : Array Value) (n : Nat) : ((Array.range (n * z.size)).map (z[· % z.size]!)).toList = (List.replicate n z.toList).flatten := by
  apply List.ext_getElem?
  intro k
  rw [getElem?_rep]
  by_cases h : k < n * z.size
  · have hz : 0 < z.size := by
      rcases Nat.eq_zero_or_pos z.size with h0 | h0
      · rw [h0] at h; simp at h
      · exact h0
    have hm : k % z.size < z.size := Nat.mod_lt _ hz
    simp [h, hm]
  · simp [h]

theorem RL_rep {us : List Value} {l : List AV} (h : RL C w us l) (n : Nat) : RL C w ((List.replicate n us).flatten) ((List.replicate n l).flatten) := by
  induction n with
  | zero => simpa using RL.nil
  | succ n ih => rw [List.replicate_succ, List.replicate_succ, List.flatten_cons, List.flatten_cons]; exact h.append ih

mutual
theorem toDat_nil (H : List Blk) : ∀ (x : AV) (d : Dat), x.toDat [] = some d → x.toDat H = some d ∧ x.refs = []
  | .dat d', d, h => ⟨h, rfl⟩
  | .nil e sz fl, d, h => ⟨h, rfl⟩
  | .own id off len, d, h => by simp [AV.toDat] at h
  | .agg cs, d, h => by
    simp only [AV.toDat, Option.map_eq_some_iff] at h
    obtain ⟨ds, hds, rfl⟩ := h
    obtain ⟨h1, h2⟩ := toDatL_nil H cs ds hds
    exact ⟨by simp [AV.toDat, h1], by simpa [AV.refs] using h2⟩
  | .ptr _ _, d, h => by simp [AV.toDat] at h
  | .eptr _ _ _, d, h => by simp [AV.toDat] at h
  | .dptr _, d, h => by simp [AV.toDat] at h
  | .tup _, d, h => by simp [AV.toDat] at h
  | .fn _ _ _, d, h => by simp [AV.toDat] at h
  | .top, d, h => by simp [AV.toDat] at h
theorem toDatL_nil (H : List Blk) : ∀ (l : List AV) (ds : List Dat), AV.toDatL [] l = some ds → AV.toDatL H l = some ds ∧ AV.refsL l = []
  | [], ds, h => ⟨h, rfl⟩
  | x :: l, ds, h => by
    simp only [AV.toDatL] at h
    split at h <;> first | (cases h; done) | skip
    rename_i d hd
    split at h <;> first | (cases h; done) | skip
    rename_i r hr
    obtain ⟨h1, h2⟩ := toDat_nil H x d hd
    obtain ⟨h3, h4⟩ := toDatL_nil H l r hr
    exact ⟨by simp [AV.toDatL, h1, h3]; simpa using h, by simp [AV.refsL, h2, h4]⟩
end

theorem elem_cells {z : Nat} {ds : List Dat} (h : ds.length = z) (hl : ∀ d ∈ ds, d.leaf = true) (hz : 0 < z) : (if z = 1 then ds.headD default else Dat.agg ds).cells = ds := by
  split
  · rename_i h1; subst h1
    cases ds with
    | nil => simp at h
    | cons d r => cases r with
      | nil =>
        have := hl d List.mem_cons_self
        cases d <;> first | rfl | (simp [Dat.leaf] at this; done)
      | cons _ _ => simp at h
  · rfl

theorem flatten_replicate (x : Dat) (n : Nat) : flatten (List.replicate n x) = (List.replicate n x.cells).flatten := by
  induction n with
  | zero => rfl
  | succ n ih => rw [List.replicate_succ, flatten_cons, ih, List.replicate_succ, List.flatten_cons]

theorem maxLen_eq : maxLen = 9223372036854775807 := by unfold maxLen; rfl

theorem mksl_sound {t : TypeId} {l c : Operand} (hop : o.op = .makeSlice t l c) (ht : opT P o = some xo) (he : evalOp cf env H xo = some (av, H')) (hE : EnvR C w a env) (hH : RH C w Hp) (hN : ¬ C.D H.length) :
    MemOk P C w a o Hp H H' [] av := by
  simp only [opT, hop] at ht
  split at ht <;> first | (cases ht; done) | skip
  rename_i el hu
  simp only [Option.bind_eq_bind, Option.bind_eq_some_iff] at ht
  obtain ⟨z, hz, ht⟩ := ht
  split at ht <;> first | (cases ht; done) | skip
  rename_i hcond
  obtain ⟨hzl, hbytes⟩ := hcond
  simp only [Option.bind_eq_some_iff, Option.some.injEq] at ht
  obtain ⟨l', hl, c', hc, rfl⟩ := ht
  have Rl := operand_sound hl hE
  have Rc := operand_sound hc hE
  generalize hvl : a.eval l = vl at Rl
  generalize hvc : a.eval c = vc at Rc
  simp only [evalOp] at he
  split at he <;> first | (cases he; done) | skip
  rename_i k1 n k2 m e1 e2
  rw [e1] at Rl; rw [e2] at Rc
  split at he <;> first | (cases he; done) | skip
  rename_i hb
  obtain ⟨hb1, hb2, hb3⟩ := hb
  split at he <;> first | (cases he; done) | skip
  rename_i ds hds
  split at he <;> first | (cases he; done) | skip
  rename_i hsz
  obtain ⟨hsz, hsz0⟩ := hsz
  simp only [Option.some.injEq, Prod.mk.injEq] at he; obtain ⟨rfl, rfl⟩ := he
  obtain ⟨i, zv, hi, hzv, hRz, h1⟩ := zeroC_sound (C := C) (w := w) hz
  have hisz : i.size = P.cellsOf el := by simp [Program.cellsOf, hi]
  have hiby : i.bytes = P.bytesOf el := by simp [Program.bytesOf, hi]
  cases Rl with | dat Rl => cases Rl; cases Rc with | dat Rc => cases Rc; (
    have hr := run_make (P := P) w t el i zv hu hi hzv k1 k2 n m hb1 hb2 (by
      rw [hiby]
      have : (P.bytesOf el : Int) * m ≤ 65536 * 4294967296 := Int.mul_le_mul (by omega) (by simp [LIM] at hb3; omega) (by omega) (by omega)
      omega) (by simp [LIM] at hb3; omega)
    obtain ⟨hds', hrefs⟩ := toDatL_nil H z ds hds
    obtain ⟨hd1, hd2⟩ := toDatL_sound hH C.Fz (fun _ h => h) z ds hds' (fun i hi => by rw [hrefs] at hi; cases hi) (fun i hi => by rw [hrefs] at hi; cases hi) zv.cells.toList hRz
    have hleaf : ∀ d ∈ ds, d.leaf = true := fun d hd => by
      obtain ⟨j, hj, rfl⟩ := List.mem_iff_getElem.1 hd
      have hj' : j < zv.cells.toList.length := by omega
      exact leaf_of_one (hd2 j _ _ (List.getElem?_eq_getElem hj') (List.getElem?_eq_getElem hj)) (h1 _ (List.getElem_mem hj'))
    have hzs : zv.cells.size = i.size := by
      have := hRz.1; simp only [Array.length_toList] at this; omega
    have hcells := elem_cells hsz hleaf hsz0
    have key := newArr (e := el) (sz := P.cellsOf el) (fl := Dat.flats ds) (xs := List.replicate n.toNat (if P.cellsOf el = 1 then ds.headD default else .agg ds)) hH hN [] (fun i hi => by cases hi) (fun i hi => by cases hi)
      (c := madeCells zv.cells (m.toNat * i.size)) (n := n.toNat) (cap := m.toNat) hsz0 (by rw [size_madeCells, hisz]) (by simp) (by omega) (by rw [maxLen_eq]; simp [LIM] at hb3; omega)
      (fun x hx => by rw [List.eq_of_mem_replicate hx, hcells, hsz]) (fun hf x hx => by
        rw [List.eq_of_mem_replicate hx]; apply flat_of_cells; rw [hcells]; exact flats_mem hf) (fun k d hk => by
        rw [flatten_replicate, hcells, getElem?_rep] at hk
        split at hk <;> first | (cases hk; done) | skip
        rename_i hlt
        have hj : k % ds.length < zv.cells.toList.length := by rw [hd1]; exact Nat.mod_lt _ (by omega)
        refine ⟨zv.cells.toList[k % ds.length], ?_, (hd2 _ _ _ (List.getElem?_eq_getElem hj) hk).keeps (fun _ h => .inl h) (fun _ _ => rfl), h1 _ (List.getElem_mem hj)⟩
        have hml := made_list zv.cells m.toNat
        have hlist : (madeCells zv.cells (m.toNat * i.size))[k]? = ((List.replicate m.toNat zv.cells.toList).flatten)[k]? := by
          rw [← hml, ← Array.getElem?_toList, ← hzs]; rfl
        rw [hlist, getElem?_rep, if_pos (by
          have : n.toNat * ds.length ≤ m.toNat * ds.length := Nat.mul_le_mul_right _ (by omega)
          rw [hd1]; omega), hd1, List.getElem?_eq_getElem])
    obtain ⟨C', hL, hV⟩ := key
    rw [freeze_nil] at hL
    exact ⟨_, _, C', .inl (by simp only [execOp, hop, hvl, hvc, Sem.run_bind, hr]; rfl), hV, hL⟩)

mutual
theorem toDat_refs : ∀ (x : AV) (d : Dat), x.toDat H = some d → ∀ i ∈ x.refs, ∃ e sz fl fz xs, H[i]? = some (.arr e sz fl fz xs)
  | .dat d', d, h, i, hi => by cases hi
  | .nil e sz fl, d, h, i, hi => by cases hi
  | .own id off len, d, h, i, hi => by
    simp only [AV.refs, List.mem_singleton] at hi; subst hi
    simp only [AV.toDat] at h
    split at h <;> first | (cases h; done) | skip
    rename_i e sz fl fz xs hb
    exact ⟨e, sz, fl, fz, xs, hb⟩
  | .agg cs, d, h, i, hi => by
    simp only [AV.toDat, Option.map_eq_some_iff] at h
    obtain ⟨ds, hds, rfl⟩ := h
    exact toDatL_refs cs ds hds i (by simpa [AV.refs] using hi)
  | .ptr _ _, d, h, i, hi => by simp [AV.toDat] at h
  | .eptr _ _ _, d, h, i, hi => by simp [AV.toDat] at h
  | .dptr _, d, h, i, hi => by simp [AV.toDat] at h
  | .tup _, d, h, i, hi => by simp [AV.toDat] at h
  | .fn _ _ _, d, h, i, hi => by simp [AV.toDat] at h
  | .top, d, h, i, hi => by simp [AV.toDat] at h
theorem toDatL_refs : ∀ (l : List AV) (ds : List Dat), AV.toDatL H l = some ds → ∀ i ∈ AV.refsL l, ∃ e sz fl fz xs, H[i]? = some (.arr e sz fl fz xs)
  | [], ds, h, i, hi => by cases hi
  | x :: l, ds, h, i, hi => by
    simp only [AV.toDatL] at h
    split at h <;> first | (cases h; done) | skip
    rename_i d hd
    split at h <;> first | (cases h; done) | skip
    rename_i r hr
    rcases List.mem_append.1 (by simpa [AV.refsL] using hi : i ∈ x.refs ++ AV.refsL l) with hi | hi
    · exact toDat_refs x d hd i hi
    · exact toDatL_refs l r hr i hi
end

theorem bsl_sound {t : TypeId} {n : Nat} {ps : Array (Nat × Operand)} (hop : o.op = .buildSlice t n ps) (ht : opT P o = some xo) (he : evalOp cf env H xo = some (av, H')) (hE : EnvR C w a env) (hH : RH C w Hp) (hN : ¬ C.D H.length)
    (hT : ∀ id ∈ (touched env H xo).1, Hp id = H[id]?) : MemOk P C w a o Hp H H' (touched env H xo).2 av := by
  simp only [opT, hop] at ht
  split at ht <;> first | (cases ht; done) | skip
  rename_i el hu
  simp only [Option.bind_eq_bind, Option.bind_eq_some_iff] at ht
  obtain ⟨z, hz, l, hl, ht⟩ := ht
  split at ht <;> first | (cases ht; done) | skip
  rename_i hcond
  obtain ⟨hzl, hcells⟩ := hcond
  simp only [Option.some.injEq] at ht; subst ht
  simp only [evalOp] at he
  split at he <;> first | (cases he; done) | skip
  rename_i cs hcs
  split at he <;> first | (cases he; done) | skip
  rename_i ds hds
  split at he <;> first | (cases he; done) | skip
  rename_i hsz
  obtain ⟨hsz, hsz0⟩ := hsz
  simp only [Option.some.injEq, Prod.mk.injEq] at he; obtain ⟨rfl, rfl⟩ := he
  obtain ⟨i, zv, hi, hzv, hRz, h1⟩ := zeroC_sound (C := C) (w := w) hz
  have hzs : zv.cells.size = P.cellsOf el := by
    have := hRz.1; simp only [Array.length_toList] at this; omega
  have hisz : i.size = P.cellsOf el := by simp [Program.cellsOf, hi]
  simp only [touched, hcs] at hT ⊢
  have hf := listM_forall hl
  have hfo : F2 (PartOk a C w env (fun k => some (k * P.cellsOf el, P.cellsOf el))) ps.toList l := by
    refine F2.imp hf (fun p q hpq => ?_)
    simp only [Option.bind_eq_some_iff, Option.some.injEq] at hpq
    obtain ⟨x, hx, rfl⟩ := hpq
    exact ⟨rfl, operand_sound hx hE⟩
  have hbase : RL C w ((Array.range (n * P.cellsOf el)).map (zv.cells[· % zv.cells.size]!)).toList ((List.replicate n z).flatten) := by
    rw [← hzs, made_list]; exact RL_rep hRz n
  have hbase1 : ∀ u ∈ ((Array.range (n * P.cellsOf el)).map (zv.cells[· % zv.cells.size]!)).toList, u.oneCell' = true := by
    rw [← hzs, made_list]
    intro u hu
    rw [List.mem_flatten] at hu
    obtain ⟨m, hm, hu⟩ := hu
    rw [List.eq_of_mem_replicate hm] at hu
    exact h1 u hu
  obtain ⟨us', e1, e2, e3, e4⟩ := fill_sound hfo hbase hcs hbase1
  have hlies : ∀ i ∈ AV.refsL cs, ∀ b k, H[i]? = some b → Lies b (C.ρ i) k → (fun k => C.Fz k ∨ ∃ i ∈ AV.refsL cs, ∃ b, H[i]? = some b ∧ Lies b (C.ρ i) k) k := fun i hi b k hb hk => .inr ⟨i, hi, b, hb, hk⟩
  obtain ⟨hd1, hd2⟩ := toDatL_sound hH (fun k => C.Fz k ∨ ∃ i ∈ AV.refsL cs, ∃ b, H[i]? = some b ∧ Lies b (C.ρ i) k) (fun _ h => .inl h) cs ds hds hT hlies us'.toList e2
  have hleaf : ∀ d ∈ ds, d.leaf = true := fun d hd => by
    obtain ⟨j, hj, rfl⟩ := List.mem_iff_getElem.1 hd
    have hj' : j < us'.toList.length := by omega
    exact leaf_of_one (hd2 j _ _ (List.getElem?_eq_getElem hj') (List.getElem?_eq_getElem hj)) (e3 _ (List.getElem_mem hj'))
  obtain ⟨hc1, hc2, hc3⟩ := chunks_cells n ds hsz hleaf hsz0
  have hus : us'.size = n * P.cellsOf el := by rw [← hsz, ← hd1]; simp
  have hn : n ≤ 16777216 := by
    have : n * 1 ≤ n * P.cellsOf el := Nat.mul_le_mul_left _ hsz0
    omega
  obtain ⟨C', hL, hV⟩ := newArr (e := el) (sz := P.cellsOf el) (fl := Dat.flats ds) (xs := chunks (P.cellsOf el) n ds) hH hN (AV.refsL cs) (toDatL_refs cs ds hds) hT
    (c := us') (n := n) (cap := n) hsz0 hus hc3 (Nat.le_refl _) (by rw [maxLen_eq]; omega) hc1 (fun hf x hx => chunks_flat n ds (flats_mem hf) hsz hsz0 x hx) (fun k d hk => by
      rw [hc2] at hk
      have hj : k < us'.toList.length := by rw [hd1]; exact (List.getElem?_eq_some_iff.1 hk).1
      exact ⟨us'.toList[k], by rw [← Array.getElem?_toList, List.getElem?_eq_getElem hj], hd2 _ _ _ (List.getElem?_eq_getElem hj) hk, e3 _ (List.getElem_mem hj)⟩)
  refine ⟨_, _, C', .inl ?_, hV, hL⟩
  have hszr : (sizeOf el).run P w = .ok (P.cellsOf el) w := run_sizeOf w hi
  have e1' : Instr.fill (fun i => some (i * P.cellsOf el, P.cellsOf el)) ((Array.range (n * P.cellsOf el)).map (zv.cells[· % zv.cells.size]!)) (ps.map fun x => (x.1, a.eval x.2)).toList = some us' := by
    rw [Array.toList_map]; exact e1
  by_cases h0 : n * P.cellsOf el = 0
  · have hz2 : ((Array.range 0).map ((#[] : Array Value)[· % (#[] : Array Value).size]!)) = ((Array.range (n * P.cellsOf el)).map (zv.cells[· % zv.cells.size]!)) := by rw [h0]; simp [Array.range_zero']
    rw [← hz2] at e1'
    simp only [execOp, hop, Instr.buildSlice, Sem.run_bind, run_underlying hu, Result.andThen_ok, hszr, Sem.run_ite, if_neg (by omega : ¬ n * P.cellsOf el > 2 ^ 24), if_pos h0, Sem.run_pure]
    simp only [h0] at e1' ⊢
    simp only [e1', newRow, Sem.run_bind, run_newObj, Result.andThen_ok, Sem.run_pure]
    rfl
  · simp only [execOp, hop, Instr.buildSlice, Sem.run_bind, run_underlying hu, Result.andThen_ok, hszr, Sem.run_ite, if_neg (by omega : ¬ n * P.cellsOf el > 2 ^ 24), if_neg h0, Sem.run_pure, run_zero hi hzv]
    simp only [e1', newRow, Sem.run_bind, run_newObj, Result.andThen_ok, Sem.run_pure]
    rfl

end Go.Ax
