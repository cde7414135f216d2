/-
  Ax, text 24: what a statement's arguments read as.
-/
import Derived.Test.YtfoglingdnhjpaaGreatDoorXFn
import GoSem.ClaimChange
namespace Go.Ax
set_option linter.all false
set_option linter.unusedSectionVars false
open Go.RowKit
variable [Gls]
variable {P : Program} {w : World}
def Parts (p : TypeId → List Dat → Prop) : List TypeId → List Dat → Prop
 | [], ds => ds = []
 | t :: r, ds => ∃ a b, ds = a ++ b ∧ p t a ∧ Parts p r b
def elemD (P : Program) (t : TypeId) (cs : List Dat) : Dat := match P.underlying t with
 | some (.struct _) | some (.array _ _) => .agg cs
 | _ => cs.headD default
def Cells (P : Program) (B : Nat) : Nat → TypeId → List Dat → Prop
 | 0, _, _ => False
 | f + 1, t, ds => match P.underlying t with
  | some .bool => ∃ b, ds = [.bool b]
  | some (.int k) => ∃ n, ds = [.int k n] ∧ (Lit.int k n).wf = true
  | some .string => ∃ s, ds = [.str s] ∧ s.size ≤ B
  | some (.slice e) => ∃ xs, ds = [.sl (P.cellsOf e) (flatT P 16 e) xs] ∧ xs.length ≤ B ∧ ∀ x ∈ xs, ∃ cs, Cells P B f e cs ∧ x = elemD P e cs
  | some (.struct fs) => Parts (Cells P B f) (fs.toList.map (·.type)) ds
  | some (.array n e) => Parts (Cells P B f) (List.replicate n e) ds
  | _ => False
def tidyF (P : Program) : Nat → List Field → Nat → Bool
 | pos, [], tot => pos == tot
 | pos, g :: r, tot => g.offset == pos && tidyF P (pos + P.cellsOf g.type) r tot
def tidyT (P : Program) : Nat → TypeId → Bool
 | 0, _ => false
 | f + 1, t => match P.underlying t with
  | some .bool | some (.int _) | some .string => P.cellsOf t == 1
  | some (.slice e) => P.cellsOf t == 1 && decide (0 < P.cellsOf e) && tidyT P f e
  | some (.struct fs) => tidyF P 0 fs.toList (P.cellsOf t) && fs.toList.all fun g => tidyT P f g.type
  | some (.array n e) => P.cellsOf t == n * P.cellsOf e && tidyT P f e
  | _ => false
theorem parts_length {p : TypeId → List Dat → Prop} : ∀ {ts : List TypeId} {ds : List Dat}, (∀ t ∈ ts, ∀ a, p t a → a.length = P.cellsOf t) → Parts p ts ds → ds.length = (ts.map P.cellsOf).sum
 | [], ds, _, h => by simp only [Parts] at h; subst h; rfl
 | t :: r, ds, hp, h => by
  obtain ⟨a, b, rfl, ha, hb⟩ := h
  rw [List.length_append, hp t (by simp) a ha, parts_length (fun t ht => hp t (by simp [ht])) hb]
  simp
theorem tidyF_sum : ∀ (fs : List Field) (pos tot : Nat), tidyF P pos fs tot = true → pos + (fs.map fun g => P.cellsOf g.type).sum = tot
 | [], pos, tot, h => by simp only [tidyF, beq_iff_eq] at h; simp [h]
 | g :: r, pos, tot, h => by
  simp only [tidyF, Bool.and_eq_true] at h
  have := tidyF_sum r _ _ h.2
  simp only [List.map_cons, List.sum_cons]; omega
theorem cells_length {B : Nat} : ∀ (f : Nat) (t : TypeId) (ds : List Dat), tidyT P f t = true → Cells P B f t ds → ds.length = P.cellsOf t
 | 0, _, _, h, _ => by simp [tidyT] at h
 | f + 1, t, ds, h, hc => by
  simp only [tidyT] at h
  simp only [Cells] at hc
  split at h <;> simp_all only
  ·obtain ⟨b, rfl⟩ := hc; simp at h; simp [h]
  ·obtain ⟨b, rfl, _⟩ := hc; simp at h; simp [h]
  ·obtain ⟨b, rfl, _⟩ := hc; simp at h; simp [h]
  ·obtain ⟨b, rfl, _⟩ := hc; simp at h; simp [h]
  ·rename_i fs hu
   simp only [Bool.and_eq_true, List.all_eq_true] at h
   have h1 := tidyF_sum _ _ _ h.1
   rw [parts_length (P := P) (fun t ht a ha => ?_) hc]
   ·rw [List.map_map]; simpa [Function.comp_def] using h1
   ·obtain ⟨g, hg, rfl⟩ := List.mem_map.1 ht
    exact cells_length f _ _ (h.2 g hg) ha
  ·rename_i n e hu
   simp only [Bool.and_eq_true, beq_iff_eq] at h
   rw [parts_length (P := P) (fun t ht a ha => ?_) hc]
   ·simp [h.1]
   ·rw [List.eq_of_mem_replicate ht] at ha ⊢
    exact cells_length f _ _ h.2 ha
theorem flats_append : ∀ (a b : List Dat), Dat.flats (a ++ b) = (Dat.flats a && Dat.flats b)
 | [], b => by simp [Dat.flats]
 | x :: a, b => by simp [Dat.flats, flats_append a b, Bool.and_assoc]
theorem parts_flat {p : TypeId → List Dat → Prop} : ∀ {ts : List TypeId} {ds : List Dat}, (∀ t ∈ ts, ∀ a, p t a → Dat.flats a = true) → Parts p ts ds → Dat.flats ds = true
 | [], ds, _, h => by simp only [Parts] at h; subst h; rfl
 | t :: r, ds, hp, h => by
  obtain ⟨a, b, rfl, ha, hb⟩ := h
  rw [flats_append, hp t (by simp) a ha, parts_flat (fun t ht => hp t (by simp [ht])) hb]; rfl
theorem cells_flat {B : Nat} : ∀ (f m : Nat) (t : TypeId) (ds : List Dat), flatT P m t = true → Cells P B f t ds → Dat.flats ds = true
 | 0, _, _, _, _, hc => by simp [Cells] at hc
 | f + 1, 0, _, _, h, _ => by simp [flatT] at h
 | f + 1, m + 1, t, ds, h, hc => by
  simp only [flatT] at h
  simp only [Cells] at hc
  split at h <;> first | (cases h; done) | skip
  all_goals (rename_i hu; simp only [hu] at hc)
  ·obtain ⟨b, rfl⟩ := hc; rfl
  ·obtain ⟨b, rfl, _⟩ := hc; rfl
  ·obtain ⟨b, rfl, _⟩ := hc; rfl
  ·simp only [List.all_eq_true] at h
   refine parts_flat (fun t ht a ha => ?_) hc
   obtain ⟨g, hg, rfl⟩ := List.mem_map.1 ht
   exact cells_flat f m _ _ (h g hg) ha
  ·refine parts_flat (fun t ht a ha => ?_) hc
   rw [List.eq_of_mem_replicate ht] at ha
   exact cells_flat f m _ _ h ha
theorem elemD_flat {B f m : Nat} {t : TypeId} {cs : List Dat} (h : flatT P m t = true) (hc : Cells P B f t cs) : (elemD P t cs).flat = true := by
 have := cells_flat f m t cs h hc
 unfold elemD
 split
 ·simpa [Dat.flat] using this
 ·simpa [Dat.flat] using this
 ·cases cs with
  | nil => rfl
  | cons x r => simp only [Dat.flats, Bool.and_eq_true] at this; exact this.1
theorem elemD_cells {B f : Nat} {t : TypeId} {cs : List Dat} (hc : Cells P B f t cs) : (elemD P t cs).cells = cs := by
 cases f with
 | zero => simp [Cells] at hc
 | succ f =>
  unfold elemD
  simp only [Cells] at hc
  split at hc <;> rename_i hu <;> simp only [hu]
  ·obtain ⟨b, rfl⟩ := hc; rfl
  ·obtain ⟨b, rfl, _⟩ := hc; rfl
  ·obtain ⟨b, rfl, _⟩ := hc; rfl
  ·obtain ⟨b, rfl, _⟩ := hc; rfl
  ·rfl
  ·rfl
  ·exact hc.elim
theorem flatten_inv {sz : Nat} : ∀ {L : List (List Dat)}, (∀ l ∈ L, l.length = sz) → ∀ {k : Nat} {d : Dat}, L.flatten[k]? = some d → ∃ i j l, k = i * sz + j ∧ L[i]? = some l ∧ l[j]? = some d
 | [], _, k, d, h => by simp at h
 | l :: L, hL, k, d, h => by
  rw [List.flatten_cons] at h
  have hl := hL l (by simp)
  by_cases hk : k < l.length
  ·rw [List.getElem?_append_left hk] at h
   exact ⟨0, k, l, by simp, rfl, h⟩
  ·rw [List.getElem?_append_right (by omega)] at h
   obtain ⟨i, j, l', h1, h2, h3⟩ := flatten_inv (fun l hl => hL l (by simp [hl])) h
   refine ⟨i + 1, j, l', ?_, by simpa using h2, h3⟩
   rw [Nat.succ_mul]; omega
theorem mapM_get {α β : Type} {f : α → Option β} : ∀ {xs : List α} {ys : List β}, xs.mapM f = some ys → ys.length = xs.length ∧ ∀ (i : Nat) (x : α), xs[i]? = some x → ∃ y, ys[i]? = some y ∧ f x = some y
 | [], ys, h => by
  simp only [List.mapM_nil, Option.pure_def, Option.some.injEq] at h; subst h
  exact ⟨rfl, fun i x hx => by simp at hx⟩
 | x :: xs, ys, h => by
  simp only [List.mapM_cons, Option.pure_def, Option.bind_eq_bind, Option.bind_eq_some_iff, Option.some.injEq] at h
  obtain ⟨y, hy, r, hr, rfl⟩ := h
  obtain ⟨h1, h2⟩ := mapM_get hr
  refine ⟨by simp [h1], fun i z hz => ?_⟩
  cases i with
  | zero => simp at hz; subst hz; exact ⟨y, rfl, hy⟩
  | succ i => exact h2 i z (by simpa using hz)
structure Bounds {H : Type} (M : DataW H → Prop) (B : Nat) : Prop where
 slice : ∀ es sp, es.length ≤ maxLen → M (.slice es sp) → es.length ≤ B ∧ ∀ e ∈ es, M e
 agg : ∀ ps, M (.agg ps) → ∀ p ∈ ps, M p
 string : ∀ b, b.length ≤ maxLen → M (.lit (.string b)) → b.length ≤ B
theorem Bounds.all {H : Type} : Bounds (H := H) (fun _ => True) maxLen := ⟨fun _ _ h _ => ⟨h, fun _ _ => trivial⟩, fun _ _ _ _ => trivial, fun _ h _ => h⟩
structure ReadsAs (P : Program) (B f : Nat) (F : Nat → Prop) (w : World) (t : TypeId) (cs : List Value) (ds : List Dat) : Prop where
 cells : Cells P B f t ds
 len : ds.length = cs.length
 one : ∀ v ∈ cs, v.oneCell' = true
 rd : ∀ (k : Nat) (v : Value) (d : Dat), cs[k]? = some v → ds[k]? = some d → RD F w v d
theorem parts_read {H : Type} {B f : Nat} {F : Nat → Prop} {M : DataW H → Prop} {rd : TypeId → List Value → Option (DataW H × List MemPlace)}
  (hrd : ∀ t cs d ps, tidyT P f t = true → M d → rd t cs = some (d, ps) → ∃ ds, ReadsAs P B f F w t cs ds) : ∀ (fs : List Field) (pos : Nat) (cs : List Value) (xs : List (DataW H × List MemPlace)),
  tidyF P pos fs cs.length = true → (∀ g ∈ fs, tidyT P f g.type = true) → (∀ x ∈ xs, M x.1) → fs.mapM (fun g => rd g.type ((cs.drop g.offset).take (P.cellsOf g.type))) = some xs →
  ∃ ds, Parts (Cells P B f) (fs.map (·.type)) ds ∧ ds.length = cs.length - pos ∧ (∀ v ∈ cs.drop pos, v.oneCell' = true) ∧ ∀ (k : Nat) (v : Value) (d : Dat), (cs.drop pos)[k]? = some v → ds[k]? = some d → RD F w v d
 | [], pos, cs, xs, ht, _, _, h => by
  simp only [tidyF, beq_iff_eq] at ht
  refine ⟨[], rfl, by simp [ht], fun v hv => ?_, fun k v d _ hd => by simp at hd⟩
  rw [ht, List.drop_length] at hv; cases hv
 | g :: fs, pos, cs, xs, ht, htt, hM, h => by
  simp only [tidyF, Bool.and_eq_true, beq_iff_eq] at ht
  simp only [List.mapM_cons, Option.pure_def, Option.bind_eq_bind, Option.bind_eq_some_iff, Option.some.injEq] at h
  obtain ⟨⟨d, ps⟩, hy, r, hr, rfl⟩ := h
  obtain ⟨a, ha⟩ := hrd _ _ _ _ (htt g (by simp)) (hM (d, ps) (by simp)) hy
  have hal := cells_length f _ _ (htt g (by simp)) ha.cells
  obtain ⟨b, hb1, hb2, hb3, hb4⟩ := parts_read hrd fs _ cs r ht.2 (fun g hg => htt g (by simp [hg])) (fun x hx => hM x (by simp [hx])) hr
  have hlen := ha.len
  rw [hal, List.length_take, List.length_drop, ht.1] at hlen
  have hsum := tidyF_sum _ _ _ ht.2
  have hdrop : cs.drop pos = (cs.drop pos).take (P.cellsOf g.type) ++ cs.drop (pos + P.cellsOf g.type) := by
   rw [← List.drop_drop]; exact (List.take_append_drop _ _).symm
  refine ⟨a ++ b, ⟨a, b, rfl, ha.cells, hb1⟩, by rw [List.length_append, hb2, hal]; omega, fun v hv => ?_, fun k v d hv hd => ?_⟩
  ·rw [hdrop, List.mem_append] at hv
   rcases hv with hv | hv
   ·exact ha.one v (by rw [ht.1]; exact hv)
   ·exact hb3 v hv
  ·rw [hdrop] at hv
   have hl2 : ((cs.drop pos).take (P.cellsOf g.type)).length = a.length := by rw [ha.len, ht.1]
   by_cases hk : k < a.length
   ·rw [List.getElem?_append_left (by rw [hl2]; exact hk)] at hv
    rw [List.getElem?_append_left hk] at hd
    exact ha.rd k v d (by rw [ht.1]; exact hv) hd
   ·rw [List.getElem?_append_right (by omega), hl2] at hv
    rw [List.getElem?_append_right (by omega)] at hd
    exact hb4 _ v d hv hd
theorem array_read {H : Type} {B f : Nat} {F : Nat → Prop} {M : DataW H → Prop} {rd : TypeId → List Value → Option (DataW H × List MemPlace)} {e : TypeId}
  (hrd : ∀ t cs d ps, tidyT P f t = true → M d → rd t cs = some (d, ps) → ∃ ds, ReadsAs P B f F w t cs ds) (he : tidyT P f e = true) (cs : List Value) : ∀ (m i : Nat) (xs : List (DataW H × List MemPlace)),
  (i + m) * P.cellsOf e = cs.length → (∀ x ∈ xs, M x.1) → (List.range' i m).mapM (fun i => rd e ((cs.drop (i * P.cellsOf e)).take (P.cellsOf e))) = some xs →
  ∃ ds, Parts (Cells P B f) (List.replicate m e) ds ∧ ds.length = cs.length - i * P.cellsOf e ∧ (∀ v ∈ cs.drop (i * P.cellsOf e), v.oneCell' = true) ∧ ∀ (k : Nat) (v : Value) (d : Dat), (cs.drop (i * P.cellsOf e))[k]? = some v → ds[k]? = some d → RD F w v d
 | 0, i, xs, hl, _, h => by
  rw [Nat.add_zero] at hl
  refine ⟨[], rfl, by simp [hl], fun v hv => ?_, fun k v d _ hd => by simp at hd⟩
  rw [hl, List.drop_length] at hv; cases hv
 | m + 1, i, xs, hl, hM, h => by
  rw [show List.range' i (m + 1) = i :: List.range' (i + 1) m from rfl] at h
  simp only [List.mapM_cons, Option.pure_def, Option.bind_eq_bind, Option.bind_eq_some_iff, Option.some.injEq] at h
  obtain ⟨⟨d, ps⟩, hy, r, hr, rfl⟩ := h
  obtain ⟨a, ha⟩ := hrd _ _ _ _ he (hM (d, ps) (by simp)) hy
  have hal := cells_length f _ _ he ha.cells
  obtain ⟨b, hb1, hb2, hb3, hb4⟩ := array_read hrd he cs m (i + 1) r (by rw [← hl]; congr 1; omega) (fun x hx => hM x (by simp [hx])) hr
  have hi1 : (i + 1) * P.cellsOf e = i * P.cellsOf e + P.cellsOf e := Nat.succ_mul _ _
  rw [hi1] at hb2 hb3 hb4
  have hge : i * P.cellsOf e + P.cellsOf e ≤ cs.length := by rw [← hl, ← hi1]; exact Nat.mul_le_mul_right _ (by omega)
  have hdrop : cs.drop (i * P.cellsOf e) = (cs.drop (i * P.cellsOf e)).take (P.cellsOf e) ++ cs.drop (i * P.cellsOf e + P.cellsOf e) := by
   rw [← List.drop_drop]; exact (List.take_append_drop _ _).symm
  refine ⟨a ++ b, ⟨a, b, rfl, ha.cells, hb1⟩, by rw [List.length_append, hb2, hal]; omega, fun v hv => ?_, fun k v d hv hd => ?_⟩
  ·rw [hdrop, List.mem_append] at hv
   rcases hv with hv | hv
   ·exact ha.one v hv
   ·exact hb3 v hv
  ·rw [hdrop] at hv
   have hl2 : ((cs.drop (i * P.cellsOf e)).take (P.cellsOf e)).length = a.length := ha.len.symm
   by_cases hk : k < a.length
   ·rw [List.getElem?_append_left (by rw [hl2]; exact hk)] at hv
    rw [List.getElem?_append_left hk] at hd
    exact ha.rd k v d hv hd
   ·rw [List.getElem?_append_right (by omega), hl2] at hv
    rw [List.getElem?_append_right (by omega)] at hd
    exact hb4 _ v d hv hd
theorem cell_lt {x : Addr} {v : Value} (h : w.cell? x = some v) : x.block < w.heap.size := by
 rcases Nat.lt_or_ge x.block w.heap.size with h1 | h1
 ·exact h1
 ·rw [World.cell?, Array.getElem?_eq_none h1] at h
  simp at h
theorem trod_reads {H : Type} {enc : TypeId × Value → H} {B base : Nat} {spare : Nat → Bool} {held : Bool} {M : DataW H → Prop} (hB : Bounds M B) : ∀ (fuel f : Nat) (t : TypeId) (cs : List Value) (d : DataW H) (ps : List MemPlace),
  tidyT P f t = true → M d → DataW.trod enc P w base spare held fuel t cs = some (d, ps) → ∃ ds, ReadsAs P B f (fun b => b < w.heap.size) w t cs ds
 | 0, _, _, _, _, _, _, _, h => by simp [DataW.trod] at h
 | fuel + 1, 0, _, _, _, _, ht, _, _ => by simp [tidyT] at ht
 | fuel + 1, f + 1, t, cs, d, ps, ht, hM, h => by
  have ih := fun t cs d ps => trod_reads (enc := enc) (base := base) (spare := spare) (held := held) hB fuel f t cs d ps
  have single : ∀ {v : Value} {x : Dat}, Cells P B (f + 1) t [x] → v.oneCell' = true → RD (fun b => b < w.heap.size) w v x → ReadsAs P B (f + 1) (fun b => b < w.heap.size) w t [v] [x] := fun {v x} h1 h2 h3 =>
   ⟨h1, rfl, fun u hu => by simp only [List.mem_singleton] at hu; subst hu; exact h2, fun k u y hu hy => by
    cases k with
    | zero => simp at hu hy; subst hu; subst hy; exact h3
    | succ k => simp at hu⟩
  unfold DataW.trod at h
  unfold tidyT at ht
  split at h <;> rename_i hu <;> (try simp only [hu] at ht)
  all_goals first | (cases ht; done) | (cases h; done) | skip
  ·rename_i b; exact ⟨_, single (by simp [Cells, hu]) rfl (.bool b)⟩
  ·rename_i k k' n
   split at h <;> first | (cases h; done) | skip
   rename_i hk
   obtain ⟨rfl, hwf⟩ := hk
   exact ⟨_, single (by simp only [Cells, hu]; exact ⟨n, rfl, hwf⟩) rfl (.int _ n)⟩
  ·rename_i s
   split at h <;> first | (cases h; done) | skip
   rename_i hs
   simp only [Option.some.injEq, Prod.mk.injEq] at h
   obtain ⟨rfl, _⟩ := h
   have := hB.string s.data.toList (by simpa using hs) hM
   exact ⟨_, single (by simp only [Cells, hu]; exact ⟨s, rfl, by simpa using this⟩) rfl (.str s)⟩
  ·rename_i e
   exact ⟨_, single (by simp only [Cells, hu]; exact ⟨[], rfl, by simp, fun x hx => by cases hx⟩) rfl (.sl0 none 0 _ _ (fun _ => rfl))⟩
  ·rename_i e a len cap
   simp only [Bool.and_eq_true, beq_iff_eq, decide_eq_true_eq] at ht
   obtain ⟨⟨ht1, ht2⟩, ht3⟩ := ht
   split at h <;> first | (cases h; done) | skip
   rename_i hb
   obtain ⟨hb1, hb2, hb3⟩ := hb
   simp only [Option.bind_eq_some_iff, Option.map_eq_some_iff] at h
   obtain ⟨elems, hel, rest, hrest, hd⟩ := h
   simp only [Prod.mk.injEq] at hd
   obtain ⟨rfl, _⟩ := hd
   obtain ⟨hell, helg⟩ := mapM_get hel
   simp only [List.length_range] at hell
   obtain ⟨hlB, hMe⟩ := hB.slice _ _ (by simp [hell]; omega) hM
   simp only [List.length_map, hell] at hlB
   have helem : ∀ i, i < len → ∃ vs ds, w.cells? base (a.add (i * P.cellsOf e)) (P.cellsOf e) = some vs ∧ ReadsAs P B f (fun b => b < w.heap.size) w e vs ds := fun i hi => by
    obtain ⟨y, hy1, hy2⟩ := helg i i (by simp [hi])
    simp only [Option.bind_eq_some_iff] at hy2
    obtain ⟨vs, hvs, hr⟩ := hy2
    obtain ⟨ds, hds⟩ := ih e vs y.1 y.2 ht3 (hMe y.1 (List.mem_map.2 ⟨y, List.mem_of_getElem? hy1, rfl⟩)) hr
    exact ⟨vs, ds, hvs, hds⟩
   by_cases h0 : len = 0
   ·subst h0
    exact ⟨_, single (by simp only [Cells, hu]; exact ⟨[], rfl, by simp, fun x hx => by cases hx⟩) rfl (.sl0 (some a) cap _ _ (fun h => by cases h))⟩
   ·let D : Nat → List Dat := fun i => if hi : i < len then Classical.choose (Classical.choose_spec (helem i hi)) else []
    have hD : ∀ i, i < len → ∃ vs, w.cells? base (a.add (i * P.cellsOf e)) (P.cellsOf e) = some vs ∧ ReadsAs P B f (fun b => b < w.heap.size) w e vs (D i) := fun i hi => by
     refine ⟨Classical.choose (helem i hi), ?_⟩
     show _ ∧ ReadsAs P B f _ w e _ (if hi : i < len then Classical.choose (Classical.choose_spec (helem i hi)) else [])
     rw [dif_pos hi]
     exact Classical.choose_spec (Classical.choose_spec (helem i hi))
    have hDl : ∀ i, i < len → (D i).length = P.cellsOf e := fun i hi => by
     obtain ⟨vs, _, h2⟩ := hD i hi; exact cells_length f _ _ ht3 h2.cells
    have hcell : ∀ i, i < len → ∀ j d, (D i)[j]? = some d → ∃ v, w.cell? (a.add (i * P.cellsOf e + j)) = some v ∧ v.oneCell' = true ∧ RD (fun b => b < w.heap.size) w v d := fun i hi j d hd => by
     obtain ⟨vs, h1, h2⟩ := hD i hi
     unfold World.cells? at h1
     split at h1 <;> first | (cases h1; done) | skip
     obtain ⟨g1, g2⟩ := mapM_get h1
     have hj : j < (D i).length := (List.getElem?_eq_some_iff.1 hd).1
     obtain ⟨v, hv1, hv2⟩ := g2 j j (by rw [List.getElem?_range]; rw [← hDl i hi]; exact hj)
     rw [add_add] at hv2
     exact ⟨v, hv2, h2.one v (List.mem_of_getElem? hv1), h2.rd j v d hv1 hd⟩
    let xs : List Dat := (List.range len).map fun i => elemD P e (D i)
    have hxc : ∀ x ∈ xs, ∃ i, i < len ∧ x = elemD P e (D i) ∧ x.cells = D i := fun x hx => by
     obtain ⟨i, hi, rfl⟩ := List.mem_map.1 hx
     have hi := List.mem_range.1 hi
     obtain ⟨vs, _, h2⟩ := hD i hi
     exact ⟨i, hi, rfl, elemD_cells h2.cells⟩
    have hflat : flatten xs = ((List.range len).map D).flatten := by
     unfold flatten
     rw [List.flatMap_def, List.map_map]
     congr 1
     refine List.map_congr_left fun i hi => ?_
     obtain ⟨vs, _, h2⟩ := hD i (List.mem_range.1 hi)
     exact elemD_cells h2.cells
    have hinv : ∀ (k : Nat) (d : Dat), (flatten xs)[k]? = some d → ∃ v, w.cell? (a.add k) = some v ∧ v.oneCell' = true ∧ RD (fun b => b < w.heap.size) w v d := fun k d hk => by
     rw [hflat] at hk
     obtain ⟨i, j, l, rfl, h2, h3⟩ := flatten_inv (sz := P.cellsOf e) (fun l hl => by obtain ⟨i, hi, rfl⟩ := List.mem_map.1 hl; exact hDl i (List.mem_range.1 hi)) hk
     simp only [List.getElem?_map, Option.map_eq_some_iff] at h2
     obtain ⟨i', hi', rfl⟩ := h2
     have hi2 := List.getElem?_eq_some_iff.1 hi'
     obtain ⟨hlt, he⟩ := hi2
     simp only [List.length_range] at hlt
     simp only [List.getElem_range] at he; subst he
     exact hcell i hlt j d h3
    have hxl : xs.length = len := by simp [xs]
    refine ⟨[.sl (P.cellsOf e) (flatT P 16 e) xs], single ?_ rfl ?_⟩
    ·simp only [Cells, hu]
     refine ⟨xs, rfl, by rw [hxl]; exact hlB, fun x hx => ?_⟩
     obtain ⟨i, hi, h1, _⟩ := hxc x hx
     obtain ⟨vs, _, h2⟩ := hD i hi
     exact ⟨D i, h2.cells, h1⟩
    ·have hne : xs ≠ [] := fun h => by rw [h] at hxl; simp at hxl; omega
     have hF : a.block < w.heap.size := by
      have h0l : 0 < (D 0).length := by rw [hDl 0 (by omega)]; exact ht2
      obtain ⟨v, hv, _⟩ := hcell 0 (by omega) 0 _ (List.getElem?_eq_getElem h0l)
      have := cell_lt hv
      rwa [add_block] at this
     have := RD.sl (Fz := fun b => b < w.heap.size) (w := w) a cap (P.cellsOf e) (flatT P 16 e) xs (fun k => (w.cell? (a.add k)).getD undef) hne hF (by omega) (fun x hx => ?_) (fun hfl x hx => ?_) (fun k d hk => ?_) (fun k d hk => ?_)
     ·rwa [hxl] at this
     ·obtain ⟨i, hi, _, h1⟩ := hxc x hx; rw [h1]; exact hDl i hi
     ·obtain ⟨i, hi, rfl, _⟩ := hxc x hx
      obtain ⟨vs, _, h2⟩ := hD i hi
      exact elemD_flat hfl h2.cells
     ·obtain ⟨v, h1, h2, _⟩ := hinv k d hk
      simp only [h1, Option.getD_some]; exact ⟨trivial, h2⟩
     ·obtain ⟨v, h1, _, h3⟩ := hinv k d hk
      simp only [h1, Option.getD_some]; exact h3
  ·rename_i cs _ _ fs
   simp only [Bool.and_eq_true, List.all_eq_true] at ht
   split at h <;> first | (cases h; done) | skip
   rename_i hl
   simp only [Option.map_eq_some_iff, Prod.mk.injEq] at h
   obtain ⟨xs, hxs, rfl, _⟩ := h
   obtain ⟨ds, h1, h2, h3, h4⟩ := parts_read (B := B) (F := fun b => b < w.heap.size) (w := w) (rd := DataW.trod enc P w base spare held fuel) ih fs.toList 0 cs xs (by rw [hl]; exact ht.1) (fun g hg => ht.2 g hg) (fun x hx => hB.agg _ hM x.1 (List.mem_map.2 ⟨x, hx, rfl⟩)) hxs
   exact ⟨ds, by simp only [Cells, hu]; exact h1, by simpa using h2, by simpa using h3, by simpa using h4⟩
  ·rename_i cs _ _ n e
   simp only [Bool.and_eq_true, beq_iff_eq] at ht
   split at h <;> first | (cases h; done) | skip
   rename_i hl
   simp only [Option.map_eq_some_iff, Prod.mk.injEq] at h
   obtain ⟨xs, hxs, rfl, _⟩ := h
   rw [List.range_eq_range'] at hxs
   obtain ⟨ds, h1, h2, h3, h4⟩ := array_read (B := B) (F := fun b => b < w.heap.size) (w := w) (rd := DataW.trod enc P w base spare held fuel) ih ht.2 cs n 0 xs (by rw [Nat.zero_add, hl, ht.1]) (fun x hx => hB.agg _ hM x.1 (List.mem_map.2 ⟨x, hx, rfl⟩)) hxs
   exact ⟨ds, by simp only [Cells, hu]; exact h1, by simpa using h2, by simpa using h3, by simpa using h4⟩
end Go.Ax
