/-
  Ax, text 11: stores and appends.
-/
import Derived.Test.YtponcchkfmbicaaXMem2
import Derived.Laws.CopyRow
namespace Go.Ax
set_option linter.unusedSectionVars false
open Go.RowKit

variable [Gls]
variable {P : Program} {C C' : Ctx} {w w' : World} {a : Act} {env : Env} {H H' : List Blk} {cf : CallF} {av : AV} {o : Oper} {xo : XOp} {Hp : Nat → Option Blk} {wr : List Nat}

def ctxFz (C : Ctx) (H : List Blk) (ids : List Nat) : Ctx := { C with Fz := fun k => C.Fz k ∨ ∃ i ∈ ids, ∃ b, H[i]? = some b ∧ Lies b (C.ρ i) k }

/-- One block is turned; some arrays are frozen. -/
theorem Local.turn (hH : RH C w Hp) {id g : Nat} {b0 b' : Blk} (ids : List Nat) (hid : H[id]? = some b0) (hpid : Hp id = H[id]?) (hni : id ∉ ids) (hw : Writes b0 (C.ρ id) g)
    (hids : ∀ i ∈ ids, ∃ e sz fl fz xs, H[i]? = some (.arr e sz fl fz xs)) (hHp : ∀ i ∈ ids, Hp i = H[i]?)
    (hos : w'.os = w.os) (htape : w'.tape = w.tape) (hout : w'.output = w.output) (hsize : w'.heap.size = w.heap.size) (hsame : ∀ k, k ≠ g → w'.heap[k]? = w.heap[k]?)
    (hblk : RB (ctxFz C H ids) w' id b') (hlies : ∀ k, Lies b' (C.ρ id) k → Lies b0 (C.ρ id) k) :
    Local C (ctxFz C H ids) w w' H ((freeze ids H).set id b') Hp (id :: ids) := by
  have hgF : ¬ C.Fz g := by
    have hB := hH.blk id b0 (hpid.trans hid)
    intro hg
    cases hB with
    | box cs b c t hρ hb hn hF h h1 => rw [hρ] at hw; simp only [Writes] at hw; subst hw; exact hF hg
    | arr0 e sz fl fz hρ => rw [hρ] at hw; exact hw
    | arr e sz fl fz xs g' cap c hρ hz hz0 hbk hc hl hcap hF => rw [hρ] at hw; simp only [Writes] at hw; obtain ⟨h1, rfl⟩ := hw; rw [hF.1 hg] at h1; cases h1
    | mp l b es ck hρ hb hF => rw [hρ] at hw; simp only [Writes] at hw; subst hw; exact hF hg
    | dead => exact hw
  have hidlt : id < H.length := (List.getElem?_eq_some_iff.1 hid).1
  have hidD : ∀ i ∈ ids, C.D i := fun i hi => by
    obtain ⟨e, sz, fl, fz, xs, h⟩ := hids i hi
    exact hH.dom i _ ((hHp i hi).trans h)
  have hilt : ∀ i ∈ ids, i < H.length := fun i hi => by
    obtain ⟨e, sz, fl, fz, xs, h⟩ := hids i hi
    exact (List.getElem?_eq_some_iff.1 h).1
  have hlen : ((freeze ids H).set id b').length = H.length := by rw [List.length_set, freeze_length]
  have hne : ∀ i ∈ ids, i ≠ id := fun i hi e => hni (e ▸ hi)
  have hFg : ∀ i ∈ ids, ∀ b, H[i]? = some b → ¬ Lies b (C.ρ i) g := fun i hi b hb hl => by
    have := hH.inj i id b b0 g ((hHp i hi).trans hb) (hpid.trans hid) hl hw.lies
    exact hne i hi this
  have hK : Keeps C (ctxFz C H ids) w w' := ⟨fun _ h => .inl h, fun k hk => hsame k (fun e => hgF (e ▸ hk)), fun _ h => h, fun _ _ => rfl, fun _ _ => rfl⟩
  have getid : ((freeze ids H).set id b')[id]? = some b' := by rw [List.getElem?_set_self (by rw [freeze_length]; exact hidlt)]
  have getne : ∀ i, i ≠ id → ((freeze ids H).set id b')[i]? = (freeze ids H)[i]? := fun i hi => List.getElem?_set_ne (Ne.symm hi)
  have tch : ∀ i, Tch H ((freeze ids H).set id b') (id :: ids) i → i = id ∨ i ∈ ids := fun i hi => by
    rcases hi with hi | hi
    · rcases List.mem_cons.1 hi with hi | hi
      · exact .inl hi
      · exact .inr hi
    · rw [hlen] at hi; omega
  have oldOf : ∀ i b, i ∈ ids → ((freeze ids H).set id b')[i]? = some b → ∃ e sz fl fz xs, H[i]? = some (.arr e sz fl fz xs) ∧ b = .arr e sz fl true xs := fun i b hi hb => by
    obtain ⟨e, sz, fl, fz, xs, h⟩ := hids i hi
    rw [getne i (hne i hi), freeze_get, h] at hb
    have hc : ids.contains i = true := List.contains_iff_mem.2 hi
    simp only [Option.map_some, hc, if_true, freeze1, Option.some.injEq] at hb
    exact ⟨e, sz, fl, fz, xs, h, hb.symm⟩
  have liesOld : ∀ i b k, i ∈ ids → ((freeze ids H).set id b')[i]? = some b → Lies b (C.ρ i) k → ∃ b0, Hp i = some b0 ∧ Lies b0 (C.ρ i) k := fun i b k hi hb hl => by
    obtain ⟨e, sz, fl, fz, xs, h, rfl⟩ := oldOf i b hi hb
    refine ⟨_, (hHp i hi).trans h, ?_⟩
    generalize C.ρ i = l at hl ⊢
    cases l <;> exact hl
  refine ⟨hK, hos, htape, hout, by omega, by omega, fun i hi hn => ?_, fun k hk => ?_, fun k f => ?_, fun k f => ?_, fun i hi => ?_, fun i => ?_, fun i b ht hb => ?_, fun i b k ht hb hl => ?_, fun i j b b2 k hi hj hbi hbj hli hlj => ?_⟩
  · rw [List.mem_cons, not_or] at hn
    rw [getne i hn.1, freeze_get]
    cases H[i]? <;> simp [hn.2]
  · by_cases e : k = g
    · subst e; exact .inr ⟨id, List.mem_cons_self, b0, hpid.trans hid, hw⟩
    · exact .inl (hsame k e)
  · rcases f with h | ⟨i, hi, b, hb, hl⟩
    · exact .inl h
    · exact .inr (.inr ⟨i, List.mem_cons_of_mem _ hi, b, (hHp i hi).trans hb, hl⟩)
  · rcases f with h | ⟨i, hi, b, hb, hl⟩
    · rw [hsize]; exact hH.lt k h
    · rw [hsize]; exact (hH.blk i b ((hHp i hi).trans hb)).lies_lt hl
  · rcases List.mem_cons.1 hi with rfl | hi
    · exact hH.dom _ _ (hpid.trans hid)
    · exact hidD i hi
  · rw [hlen]
    exact ⟨fun h => .inl h, fun h => h.resolve_right (by omega)⟩
  · rcases tch i ht with rfl | hi
    · rw [getid] at hb; injection hb with hb; subst hb; exact hblk
    · obtain ⟨e, sz, fl, fz, xs, h, rfl⟩ := oldOf i b hi hb
      have hB := hH.blk i _ ((hHp i hi).trans h)
      cases hB with
      | arr0 e sz fl fz hρ' hz hz0 => exact .arr0 e sz fl true hρ' hz hz0
      | arr e sz fl fz xs g' cap c hρ' hz hz0 hbk hc hl hcap hF hs hfl hcell =>
        have hgg : g' ≠ g := fun e => hFg i hi _ h (by rw [hρ', e]; rfl)
        refine .arr e sz fl true xs g' cap c hρ' hz hz0 ((hsame g' hgg).trans hbk) hc hl hcap ⟨fun _ => rfl, fun _ => .inr ⟨i, hi, _, h, by rw [hρ']; rfl⟩⟩ hs hfl
          (fun k d hk => let ⟨v, a, b, c⟩ := hcell k d hk; ⟨v, a, b.keeps hK.fz hK.blk, c⟩)
  · rcases tch i ht with rfl | hi
    · rw [getid] at hb; injection hb with hb; subst hb
      exact .inr ⟨i, List.mem_cons_self, b0, hpid.trans hid, hlies k hl⟩
    · obtain ⟨b1, e1, e2⟩ := liesOld i b k hi hb hl
      exact .inr ⟨i, List.mem_cons_of_mem _ hi, b1, e1, e2⟩
  · have one : ∀ i b, Tch H ((freeze ids H).set id b') (id :: ids) i → ((freeze ids H).set id b')[i]? = some b → Lies b (C.ρ i) k → ∃ b0, Hp i = some b0 ∧ Lies b0 (C.ρ i) k := fun i b ht hb hl => by
      rcases tch i ht with rfl | hi
      · rw [getid] at hb; injection hb with hb; subst hb
        exact ⟨b0, hpid.trans hid, hlies k hl⟩
      · exact liesOld i b k hi hb hl
    obtain ⟨c1, e1, e2⟩ := one i b hi hbi hli
    obtain ⟨c2, e3, e4⟩ := one j b2 hj hbj hlj
    exact hH.inj i j c1 c2 k e1 e3 e2 e4

theorem flatten_set {z : Nat} {xs : List Dat} {i : Nat} {d0 e : Dat} (hs : ∀ x ∈ xs, x.cells.length = z) (hd : xs[i]? = some d0) {off : Nat} {ds : List Dat} (hle : off + ds.length ≤ d0.cells.length)
    (he : e.cells = d0.cells.take off ++ ds ++ d0.cells.drop (off + ds.length)) : flatten (xs.set i e) = (flatten xs).take (i * z + off) ++ ds ++ (flatten xs).drop (i * z + off + ds.length) := by
  have hi := (List.getElem?_eq_some_iff.1 hd).1
  have hdi := (List.getElem?_eq_some_iff.1 hd).2
  have hz : d0.cells.length = z := hs d0 (List.mem_of_getElem? hd)
  have hx : xs = xs.take i ++ d0 :: xs.drop (i + 1) := by rw [← hdi, ← List.drop_eq_getElem_cons hi, List.take_append_drop]
  have hA : (flatten (xs.take i)).length = i * z := by
    rw [flatten_length (sz := z) (fun x hx => hs x (List.mem_of_mem_take hx)), List.length_take]; congr 1; omega
  rw [List.set_eq_take_append_cons_drop, if_pos hi, flatten_append, flatten_cons, he]
  have hfx : flatten xs = flatten (xs.take i) ++ (d0.cells ++ flatten (xs.drop (i + 1))) := by rw [← flatten_cons, ← flatten_append, ← hx]
  rw [hfx]
  generalize flatten (xs.take i) = A at hA
  generalize flatten (xs.drop (i + 1)) = B
  rw [List.take_append, List.take_of_length_le (l := A) (by omega), hA, show i * z + off - i * z = off by omega, List.take_append, show off - d0.cells.length = 0 by omega, List.take_zero, List.append_nil]
  rw [List.drop_append, List.drop_eq_nil_of_le (by omega : A.length ≤ i * z + off + ds.length), hA, List.nil_append, show i * z + off + ds.length - i * z = off + ds.length by omega, List.drop_append, show off + ds.length - d0.cells.length = 0 by omega, List.drop_zero]
  simp

theorem run_storeAt {t : TypeId} {d : TypeDesc} (hu : P.underlying t = some d) {g off : Nat} {c : Array Value} {te : TypeId} (hb : w.heap[g]? = some (.cells c te (0, 0))) {v : Value} (hn : v.cells.size = P.cellsOf t)
    (hle : off + v.cells.size ≤ c.size) (h1 : ∀ u ∈ v.cells.toList, u.oneCell' = true) :
    (Instr.storeAt t (.pointer (some ⟨g, off, none⟩)) v).run P w = .ok () (w.setRow g (c.toList.take off ++ v.cells.toList ++ c.toList.drop (off + v.cells.size)).toArray) := by
  have hst := run_storeCells_at (P := P) g off te v.cells.toList 0 c w hb (by simpa using hle) h1
  simp only [Instr.storeAt, Instr.sureAddr, Sem.run_bind, Sem.run_pure, Result.andThen_ok, storeVar, run_sizeOf' hu, ne_eq, hn, not_true_eq_false, if_false]
  simpa [hn] using hst

theorem store_sound {t : TypeId} {x y : Operand} (hop : o.op = .store t x y) (ht : opT P o = some xo) (he : evalOp cf env H xo = some (av, H')) (hE : EnvR C w a env) (hH : RH C w Hp)
    (hT : ∀ id ∈ (touched env H xo).1, Hp id = H[id]?) : MemOk P C w a o Hp H H' (touched env H xo).2 av := by
  simp only [opT, hop, Option.bind_eq_bind] at ht
  split at ht <;> first | (cases ht; done) | skip
  rename_i hu'
  simp only [Option.bind_eq_some_iff, Option.some.injEq] at ht
  obtain ⟨x', hx, y', hy, rfl⟩ := ht
  obtain ⟨d, hu⟩ := Option.isSome_iff_exists.1 hu'
  have Rx := operand_sound hx hE
  have Ry := operand_sound hy hE
  generalize hvx : a.eval x = vx at Rx
  generalize hvy : a.eval y = vy at Ry
  simp only [evalOp] at he
  split at he <;> first | (cases he; done) | skip
  rename_i H2 hst
  simp only [Option.some.injEq, Prod.mk.injEq] at he; obtain ⟨rfl, rfl⟩ := he
  simp only [storeAt] at hst
  split at hst <;> first | (cases hst; done) | skip
  rename_i hcond
  obtain ⟨hn, hone⟩ := hcond
  obtain ⟨hR, h1⟩ := Ry.cells_one hone
  have hsz : vy.cells.size = P.cellsOf t := by have := hR.1; simp only [Array.length_toList] at this; omega
  split at hst <;> first | (cases hst; done) | skip
  · rename_i id off ex
    rw [ex] at Rx
    split at hst <;> first | (cases hst; done) | skip
    rename_i cs hb
    split at hst <;> first | (cases hst; done) | skip
    rename_i cs' hset
    simp only [Option.some.injEq] at hst; subst hst
    simp only [touched, ex] at hT ⊢
    have hp := hT id (by simp)
    have hB := hH.blk id _ (hp.trans hb)
    simp only [setCells] at hset
    split at hset <;> first | (cases hset; done) | skip
    rename_i hle
    simp only [Option.some.injEq] at hset; subst hset
    cases Rx with
    | ptr _ _ b hD hρ =>
      cases hB with
      | box _ b' c te hρ' hbk hnc hF h hc1 =>
        rw [hρ] at hρ'; injection hρ' with hρ'; subst hρ'
        have hcl : RL C w c.toList cs := ⟨by simpa using hnc, fun j u x hu hx => h j u x (by simpa using hu) hx⟩
        have hrun := run_storeAt (w := w) (off := off) hu hbk hsz (by omega) h1
        have hnew := ((hcl.take off).append hR).append (hcl.drop (off + vy.cells.size))
        have hlenv : (y'.ev env).cells.length = vy.cells.size := by rw [hn, hsz]
        have hFz : ctxFz C H [] = C := by
          unfold ctxFz
          cases C; simp
        refine ⟨undef, _, C, .inr ⟨by simp only [execOp, hop, hvx, hvy, Sem.run_bind, hrun]; rfl, rfl⟩, .top _, ?_⟩
        have hL := Local.turn (w' := w.setRow b (c.toList.take off ++ vy.cells.toList ++ c.toList.drop (off + vy.cells.size)).toArray) (b' := .box (cs.take off ++ (y'.ev env).cells ++ cs.drop (off + (y'.ev env).cells.length)))
          hH (g := b) [] hb hp (by simp) (by rw [hρ]; rfl) (fun i hi => by cases hi) (fun i hi => by cases hi) rfl rfl rfl (by simp) (fun k hk => setRow_other w b k _ hk) ?_ (fun k hk => by rw [hρ] at hk ⊢; exact hk)
        · rw [hFz, freeze_nil] at hL
          exact hL
        · rw [hFz]
          have hK : Keeps C C w (w.setRow b (c.toList.take off ++ vy.cells.toList ++ c.toList.drop (off + vy.cells.size)).toArray) :=
            ⟨fun _ h => h, fun k hk => setRow_other w b k _ (fun e => hF (e ▸ hk)), fun _ h => h, fun _ _ => rfl, fun _ _ => rfl⟩
          rw [hlenv]
          refine .box _ b _ te hρ (setRow_heap w b c _ te (0, 0) hbk) (by simpa using hnew.1) hF (fun j v av hv hav => (hnew.2 j v av (by simpa using hv) hav).keeps hK) (fun j v hv => ?_)
          have hv' : v ∈ c.toList.take off ++ vy.cells.toList ++ c.toList.drop (off + vy.cells.size) := by
            have : (c.toList.take off ++ vy.cells.toList ++ c.toList.drop (off + vy.cells.size))[j]? = some v := by simpa using hv
            exact List.mem_of_getElem? this
          have hcm : ∀ u ∈ c.toList, u.oneCell' = true := fun u hu => by
            obtain ⟨j, hj, rfl⟩ := List.mem_iff_getElem.1 hu
            exact hc1 j _ (by simp)
          rcases List.mem_append.1 hv' with hv' | hv'
          · rcases List.mem_append.1 hv' with hv' | hv'
            · exact hcm v (List.mem_of_mem_take hv')
            · exact h1 v hv'
          · exact hcm v (List.mem_of_mem_drop hv')
  · rename_i id i off ex
    rw [ex] at Rx
    split at hst <;> first | (cases hst; done) | skip
    rename_i e sz fl xs hb
    split at hst <;> first | (cases hst; done) | skip
    rename_i d0 ds hd hds
    split at hst <;> first | (cases hst; done) | skip
    rename_i hc2
    obtain ⟨hle, hnc⟩ := hc2
    simp only [Option.some.injEq] at hst; subst hst
    simp only [touched, ex] at hT ⊢
    have hp := hT id (by simp)
    have hB := hH.blk id _ (hp.trans hb)
    have hrefs := toDatL_refs (H := H) _ ds hds
    have hTr : ∀ i ∈ AV.refsL (y'.ev env).cells, Hp i = H[i]? := fun i hi => hT i (by simp [hi])
    have hni : id ∉ AV.refsL (y'.ev env).cells := fun h => hnc (List.contains_iff_mem.2 h)
    cases Rx with
    | eptr _ _ _ g cap hD hρ =>
      cases hB with
      | arr0 => simp at hd
      | arr _ _ _ _ _ g' cap' c hρ' hz hz0 hbk hc hl hcap hF hs hfl hcell =>
        rw [hρ] at hρ'; injection hρ' with e1 e2; subst e1; subst e2
        have hgF : ¬ C.Fz g := fun h => by have := hF.1 h; cases this
        have hd0 : d0.cells.length = sz := hs d0 (List.mem_of_getElem? hd)
        have hilt : i < xs.length := (List.getElem?_eq_some_iff.1 hd).1
        obtain ⟨hd1, hd2⟩ := toDatL_sound hH (ctxFz C H (AV.refsL (y'.ev env).cells)).Fz (fun _ h => .inl h) _ ds hds hTr (fun i hi b k hb hk => .inr ⟨i, hi, b, hb, hk⟩) vy.cells.toList hR
        have hleaf : ∀ d ∈ ds, d.leaf = true := fun d hd => by
          obtain ⟨j, hj, rfl⟩ := List.mem_iff_getElem.1 hd
          have hj' : j < vy.cells.toList.length := by omega
          exact leaf_of_one (hd2 j _ _ (List.getElem?_eq_getElem hj') (List.getElem?_eq_getElem hj)) (h1 _ (List.getElem_mem hj'))
        have hdlen : ds.length = vy.cells.size := by rw [← hd1]; simp
        -- the cells of the row are leaves
        have hxleaf : ∀ d ∈ d0.cells, d.leaf = true := fun d hd' => by
          obtain ⟨j, hj, rfl⟩ := List.mem_iff_getElem.1 hd'
          obtain ⟨v, _, h2, h3⟩ := hcell _ _ (flatten_get hs hd (List.getElem?_eq_getElem hj))
          exact leaf_of_one h2 h3
        have hfl0 : (flatten xs).length = xs.length * sz := flatten_length hs
        have hmul : (i + 1) * sz ≤ xs.length * sz := Nat.mul_le_mul_right _ (by omega)
        rw [Nat.succ_mul] at hmul
        have hmul2 : xs.length * sz ≤ cap * sz := Nat.mul_le_mul_right _ hl
        have hnewc : (d0.cells.take off ++ ds ++ d0.cells.drop (off + ds.length)).length = sz := by simp; omega
        have hecells := elem_cells (z := sz) hnewc (fun d hd => by
          rcases List.mem_append.1 hd with hd | hd
          · rcases List.mem_append.1 hd with hd | hd
            · exact hxleaf d (List.mem_of_mem_take hd)
            · exact hleaf d hd
          · exact hxleaf d (List.mem_of_mem_drop hd)) hz0
        generalize hel : (if sz = 1 then (d0.cells.take off ++ ds ++ d0.cells.drop (off + ds.length)).headD default else Dat.agg (d0.cells.take off ++ ds ++ d0.cells.drop (off + ds.length))) = el at hecells
        have hfs := flatten_set hs hd hle hecells
        have hrun := run_storeAt (w := w) (off := i * sz + off) hu hbk hsz (by omega) h1
        rw [hz] at hvx
        generalize hrow : (c.toList.take (i * sz + off) ++ vy.cells.toList ++ c.toList.drop (i * sz + off + vy.cells.size)) = row at hrun
        have hrl : row.length = cap * sz := by rw [← hrow, ← hc]; simp; omega
        refine ⟨undef, _, ctxFz C H (AV.refsL (y'.ev env).cells), .inr ⟨by simp only [execOp, hop, hvx, hvy, Sem.run_bind, hrun]; rfl, rfl⟩, .top _, ?_⟩
        have hK : Keeps C (ctxFz C H (AV.refsL (y'.ev env).cells)) w (w.setRow g row.toArray) :=
          ⟨fun _ h => .inl h, fun k hk => setRow_other w g k _ (fun e => hgF (e ▸ hk)), fun _ h => h, fun _ _ => rfl, fun _ _ => rfl⟩
        have hnF : ¬ (ctxFz C H (AV.refsL (y'.ev env).cells)).Fz g := by
          rintro (h | ⟨j, hj, b, hb', hk⟩)
          · exact hgF h
          · have := hH.inj j id b _ g ((hTr j hj).trans hb') (hp.trans hb) hk (by rw [hρ]; rfl)
            exact hni (this ▸ hj)
        refine Local.turn hH (g := g) _ hb hp hni (by rw [hρ]; exact ⟨rfl, rfl⟩) hrefs hTr rfl rfl rfl (by simp) (fun k hk => setRow_other w g k _ hk) ?_ (fun k hk => by rw [hρ] at hk ⊢; exact hk)
        refine .arr e sz _ false (xs.set i el) g cap row.toArray hρ hz hz0 (setRow_heap w g c _ e (0, 0) hbk) (by simpa using hrl) (by simpa using hl) hcap ⟨fun h => absurd h hnF, fun h => by cases h⟩ (fun x hx => ?_) (fun hf x hx => ?_) (fun k q hk => ?_)
        · rcases List.mem_or_eq_of_mem_set hx with hx | rfl
          · exact hs x hx
          · rw [hecells, hnewc]
        · simp only [Bool.and_eq_true] at hf
          rcases List.mem_or_eq_of_mem_set hx with hx | rfl
          · exact hfl hf.1 x hx
          · apply flat_of_cells
            rw [hecells]
            have hd0f : ∀ d ∈ d0.cells, d.flat = true := fun d hd' => by
              have := hfl hf.1 d0 (List.mem_of_getElem? hd)
              cases d0 with
              | agg cs => simp only [Dat.flat] at this; exact flats_mem this d hd'
              | _ => simp only [Dat.cells, List.mem_singleton] at hd'; subst hd'; exact this
            intro d hd'
            rcases List.mem_append.1 hd' with hd' | hd'
            · rcases List.mem_append.1 hd' with hd' | hd'
              · exact hd0f d (List.mem_of_mem_take hd')
              · exact flats_mem hf.2 d hd'
            · exact hd0f d (List.mem_of_mem_drop hd')
        · rw [hfs] at hk
          have hkeep : ∀ j q, (flatten xs)[j]? = some q → ∃ v : Value, c.toList[j]? = some v ∧ RD (ctxFz C H (AV.refsL (y'.ev env).cells)).Fz (w.setRow g row.toArray) v q ∧ v.oneCell' = true := fun j q hq => by
            obtain ⟨v, h1, h2, h3⟩ := hcell j q hq
            exact ⟨v, by rw [Array.getElem?_toList]; exact h1, h2.keeps hK.fz hK.blk, h3⟩
          suffices h : ∃ v : Value, row[k]? = some v ∧ RD (ctxFz C H (AV.refsL (y'.ev env).cells)).Fz (w.setRow g row.toArray) v q ∧ v.oneCell' = true by
            obtain ⟨v, h1, h2⟩ := h
            exact ⟨v, by simpa using h1, h2⟩
          have hother : ∀ b, b ≠ g → (w.setRow g row.toArray).heap[b]? = w.heap[b]? := fun b hb => setRow_other w g b _ hb
          generalize w.setRow g row.toArray = W at hkeep hother ⊢
          rw [← hrow, ← hdlen]
          have hcl : c.toList.length = cap * sz := by simpa using hc
          by_cases hk1 : k < i * sz + off
          · rw [List.append_assoc, List.getElem?_append_left (by rw [List.length_take]; omega), List.getElem?_take, if_pos hk1]
            rw [List.append_assoc, List.getElem?_append_left (by rw [List.length_take]; omega), List.getElem?_take, if_pos hk1] at hk
            exact hkeep k q hk
          · by_cases hk2 : k < i * sz + off + ds.length
            · rw [List.append_assoc, List.getElem?_append_right (by rw [List.length_take]; omega), List.length_take, List.getElem?_append_left (by simp; omega)]
              rw [List.append_assoc, List.getElem?_append_right (by rw [List.length_take]; omega), List.length_take, List.getElem?_append_left (by omega)] at hk
              rw [show min (i * sz + off) c.toList.length = i * sz + off by omega]
              rw [show min (i * sz + off) (flatten xs).length = i * sz + off by omega] at hk
              have hj' : k - (i * sz + off) < vy.cells.toList.length := by omega
              refine ⟨vy.cells.toList[k - (i * sz + off)], List.getElem?_eq_getElem hj', ?_, h1 _ (List.getElem_mem hj')⟩
              have := hd2 _ _ q (List.getElem?_eq_getElem hj') hk
              refine this.keeps (fun _ h => h) (fun b hb => hother b (fun e => hnF (e ▸ hb)))
            · rw [List.getElem?_append_right (by simp; omega), List.length_append, List.length_take, List.getElem?_drop]
              rw [List.getElem?_append_right (by simp; omega), List.length_append, List.length_take, List.getElem?_drop] at hk
              have hvl : vy.cells.toList.length = ds.length := by omega
              rw [hvl]
              have e1 : i * sz + off + ds.length + (k - (min (i * sz + off) c.toList.length + ds.length)) = k := by omega
              have e2 : i * sz + off + ds.length + (k - (min (i * sz + off) (flatten xs).length + ds.length)) = k := by omega
              rw [e1]; rw [e2] at hk
              exact hkeep k q hk

end Go.Ax
