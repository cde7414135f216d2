/-
  Ax, text 13b: maps that the call owns.
-/
import Derived.Test.YtfoglingdnhjpaaGreatDoorXMem
import Derived.Maps.OwnSet
import Derived.Carry
namespace Go.Ax
set_option linter.all false
set_option linter.unusedSectionVars false
open Go.RowKit
variable [Gls]
variable {P : Program} {C C' : Ctx} {w w' : World} {a : Act} {env : Env} {H H' : List Blk} {cf : CallF} {av : AV} {o : Oper} {xo : XOp} {Hp : Nat → Option Blk} {wr : List Nat}
theorem mkmap_sound {t : TypeId} (hop : o.op = .makeMap t none) (ht : opT P o = some xo) (he : evalOp cf env H xo = some (av, H')) (hH : RH C w Hp) (hN : ¬ C.D H.length) : MemOk P C w a o Hp H H' [] av := by
 simp only [opT, hop] at ht
 split at ht <;> first | (cases ht; done) | skip
 split at ht <;> first | (cases ht; done) | skip
 simp only [Option.some.injEq] at ht; subst ht
 simp only [evalOp, Option.some.injEq, Prod.mk.injEq] at he
 obtain ⟨rfl, rfl⟩ := he
 refine ⟨.map (some w.heap.size), w.alloc (.map #[] 0), ctxNew C H [] (.box w.heap.size) 0, .inl (by simp [execOp, hop, run_makeMap]), .mref _ _ (.inr rfl) (by simp [ctxNew]), ?_⟩
 have := Local.new1 (H := H) hH [] (.mp []) (.box w.heap.size) 0 (.map #[] 0) (fun i hi => by cases hi) (fun i hi => by cases hi) hN ?_ (fun k hk => by simp only [Lies] at hk; omega)
 ·rwa [freeze_nil] at this
 ·refine .mp [] w.heap.size #[] 0 (by simp [ctxNew]) (heap_alloc_new w _) ?_ (MapKept.stamped_empty 0) rfl (by simp) (fun x hx => by simp at hx) (fun n d h => by simp [mlook] at h)
  rintro (h | ⟨i, hi, _⟩)
  ·have := hH.lt _ h; omega
  ·cases hi
mutual
theorem toDat_nil_refs : ∀ (x : AV), (∃ d, x.toDat [] = some d) → ∀ i ∈ x.refs, False
 | .dat _, _, i, hi => by cases hi
 | .ptr _ _, ⟨d, h⟩, _, _ => by simp [AV.toDat] at h
 | .eptr _ _ _, ⟨d, h⟩, _, _ => by simp [AV.toDat] at h
 | .dptr _, ⟨d, h⟩, _, _ => by simp [AV.toDat] at h
 | .mref _, ⟨d, h⟩, _, _ => by simp [AV.toDat] at h
 | .own _ _ _, ⟨d, h⟩, _, _ => by simp [AV.toDat] at h
 | .nil _ _ _, _, i, hi => by cases hi
 | .agg cs, ⟨d, h⟩, i, hi => by
  simp only [AV.toDat, Option.map_eq_some_iff] at h
  obtain ⟨ds, hds, _⟩ := h
  exact toDatL_nil_refs cs ⟨ds, hds⟩ i (by simpa [AV.refs] using hi)
 | .tup _, ⟨d, h⟩, _, _ => by simp [AV.toDat] at h
 | .fn _ _ _, ⟨d, h⟩, _, _ => by simp [AV.toDat] at h
 | .ifc _ _, ⟨d, h⟩, _, _ => by simp [AV.toDat] at h
 | .top, ⟨d, h⟩, _, _ => by simp [AV.toDat] at h
theorem toDatL_nil_refs : ∀ (l : List AV), (∃ d, AV.toDatL [] l = some d) → ∀ i ∈ AV.refsL l, False
 | [], _, i, hi => by cases hi
 | x :: r, ⟨d, h⟩, i, hi => by
  simp only [AV.toDatL] at h
  split at h <;> first | (cases h; done) | skip
  rename_i d1 h1
  split at h <;> first | (cases h; done) | skip
  rename_i ds h2
  simp only [AV.refsL, List.mem_append] at hi
  exact hi.elim (toDat_nil_refs x ⟨d1, h1⟩ i) (toDatL_nil_refs r ⟨ds, h2⟩ i)
end
theorem keyOk_wf {n : Int} (h : keyOk n = true) : (Lit.int .i64 n).wf = true := by
 simp only [keyOk, Bool.and_eq_true, decide_eq_true_eq] at h
 simp [Lit.wf, IntKind.min, IntKind.max, IntKind.signed, IntKind.bits]
 omega
theorem zeroD_sound {t : TypeId} {z : Dat} (h : zeroD P t = some z) : ∃ v, (zeroValue t).run P w = .ok v w ∧ RD C.Fz w v z := by
 unfold zeroD at h
 split at h <;> first | (cases h; done) | skip
 rename_i i hi
 split at h
 ·rename_i vs hz
  split at h <;> first | (cases h; done) | skip
  split at h <;> first | (cases h; done) | skip
  rename_i l hl
  simp only [Option.map_eq_some_iff] at h
  obtain ⟨ds, hds, rfl⟩ := h
  refine ⟨_, run_zero hi hz w, ?_⟩
  obtain ⟨h1, h2⟩ := cells_sound (C := C) (w := w) hl
  have key : ∀ (l : List AV) (ds : List Dat), datsOf l = some ds → l = ds.map .dat := by
   intro l
   induction l with
   | nil => intro ds h; simp only [datsOf, Option.some.injEq] at h; subst h; rfl
   | cons x r ih =>
    intro ds h
    cases x with
    | dat d =>
     simp only [datsOf] at h
     split at h <;> first | (cases h; done) | skip
     rename_i m hm
     injection h with h; subst h
     rw [ih m hm]; rfl
    | _ => simp [datsOf] at h
  have hl2 := key l ds hds
  subst hl2
  refine .agg _ _ (by simpa using h1.symm) fun j d v hd hv => ?_
  have := (h2 j v (.dat d) (by simpa using hv) (by simp [hd])).1
  cases this with | dat h => exact h
 ·rename_i v hne hz
  split at h <;> first | (cases h; done) | skip
  rename_i d hd
  injection h with h; subst h
  have := (const1_sound (C := C) (w := w) hd).1
  cases this with
  | dat h => exact ⟨_, run_zero hi hz w, h⟩
 ·cases h
theorem look_mp {l : List (Int × Dat)} {es : Array MapEntry} {F : Nat → Prop} (hk : ∀ x ∈ es.toList, ∃ n, x.key = .int .i64 n ∧ keyOk n = true ∧ ∃ d, mlook l n = some d ∧ RD F w x.val d)
  (hs : ∀ n d, mlook l n = some d → ∃ x ∈ es.toList, x.key = .int .i64 n) {kt : TypeId} (hu : P.underlying kt = some (.int .i64)) {n : Int} (hn : keyOk n = true) :
  ((Instr.findKey kt (.int .i64 n) es.toList).run P w = .ok none w ∧ (∀ x ∈ es.toList, x.key ≠ .int .i64 n) ∧ mlook l n = none) ∨
   ∃ j e d, (Instr.findKey kt (.int .i64 n) es.toList).run P w = .ok (some (j, e.val)) w ∧ es.toList[j]? = some e ∧ e.key = .int .i64 n ∧ mlook l n = some d ∧ RD F w e.val d := by
 have K := Maps.int_keyed hu
 have key : keyOf P kt (.int .i64 n) = some (.int .i64 n) := Maps.keyOf_int_mk hu (keyOk_wf hn)
 rcases K.find w key es.toList (fun e he => by
  obtain ⟨m, h1, h2, _⟩ := hk e he
  exact ⟨_, by rw [h1]; exact Maps.keyOf_int_mk hu (keyOk_wf h2)⟩) with ⟨h1, h2⟩ | ⟨j, e, h1, h2, h3⟩
 ·refine .inl ⟨h1, h2, ?_⟩
  cases hm : mlook l n with
  | none => rfl
  | some d =>
   obtain ⟨x, hx, hxk⟩ := hs n d hm
   exact absurd hxk (h2 x hx)
 ·obtain ⟨m, g1, g2, d, g3, g4⟩ := hk e (List.mem_of_getElem? h2)
  rw [h3] at g1
  injection g1 with _ g1
  subst g1
  exact .inr ⟨j, e, d, h1, h2, h3, g3, g4⟩
theorem mget_sound {t : TypeId} {x y : Operand} {ok : Bool} (hop : o.op = .lookup t x y ok) (ht : opT P o = some xo) (he : evalOp cf env H xo = some (av, H')) (hE : EnvR C w a env) (hH : RH C w Hp)
  (hT : ∀ id ∈ (touched env H xo).1, Hp id = H[id]?) : H' = H ∧ PureOk P C w a o av := by
 simp only [opT, hop] at ht
 split at ht <;> first | (cases ht; done) | skip
 rename_i kt et hu
 split at ht <;> first | (cases ht; done) | skip
 rename_i z hku hz
 simp only [Option.bind_eq_bind, Option.bind_eq_some_iff, Option.some.injEq] at ht
 obtain ⟨x', hx, y', hy, rfl⟩ := ht
 have Rx := operand_sound hx hE
 have Ry := operand_sound hy hE
 generalize hvx : a.eval x = vx at Rx
 generalize hvy : a.eval y = vy at Ry
 have K := Maps.int_keyed hku
 obtain ⟨zv, hzv, hzd⟩ := zeroD_sound (C := C) (w := w) hz
 simp only [evalOp] at he
 split at he <;> first | (cases he; done) | skip
 ·rename_i id n ex ey
  rw [ex] at Rx; rw [ey] at Ry
  split at he <;> first | (cases he; done) | skip
  rename_i hn
  split at he <;> first | (cases he; done) | skip
  rename_i l hb
  simp only [Option.some.injEq, Prod.mk.injEq] at he; obtain ⟨rfl, rfl⟩ := he
  have key : keyOf P kt (.int .i64 n) = some (.int .i64 n) := Maps.keyOf_int_mk hku (keyOk_wf hn)
  refine ⟨rfl, ?_⟩
  simp only [touched, ex] at hT
  have hB := hH.blk id _ ((hT id (by simp [AV.refs])).trans hb)
  cases Ry with
  | dat Ry => cases Ry with
   | int =>
    cases Rx with
    | mref _ b hD hρ =>
     cases hB with
     | mp _ b' es ck hρ' hbk hF hst hsz hl hk hs =>
      rw [hρ] at hρ'; injection hρ' with hρ'; subst hρ'
      rcases look_mp (P := P) (w := w) hk hs hku hn with ⟨h1, h2, h3⟩ | ⟨j, e, d, h1, h2, h3, h4, h5⟩
      ·refine ⟨if ok then .tuple #[zv, .bool false] else zv, ?_, ?_⟩
       ·simp [execOp, hop, hvx, hvy, Instr.lookup, run_underlying hu, MapKept.run_getObj_map hbk, K.check w _ key, h1, hzv, Result.andThen]
       ·unfold mgetV
        rw [h3]
        cases ok
        ·exact .dat hzd
        ·refine .tup _ _ rfl fun j c v hc hv => ?_
         match j with
         | 0 => simp at hc hv; subst hc hv; exact .dat hzd
         | 1 => simp at hc hv; subst hc hv; exact .dat (.bool _)
         | j + 2 => simp at hc
      ·refine ⟨if ok then .tuple #[e.val, .bool true] else e.val, ?_, ?_⟩
       ·simp [execOp, hop, hvx, hvy, Instr.lookup, run_underlying hu, MapKept.run_getObj_map hbk, K.check w _ key, h1, Result.andThen]
       ·unfold mgetV
        rw [h4]
        cases ok
        ·exact .dat h5
        ·refine .tup _ _ rfl fun j c v hc hv => ?_
         match j with
         | 0 => simp at hc hv; subst hc hv; exact .dat h5
         | 1 => simp at hc hv; subst hc hv; exact .dat (.bool _)
         | j + 2 => simp at hc
 ·rename_i n ex ey
  rw [ex] at Rx; rw [ey] at Ry
  split at he <;> first | (cases he; done) | skip
  rename_i hn
  simp only [Option.some.injEq, Prod.mk.injEq] at he; obtain ⟨rfl, rfl⟩ := he
  have key : keyOf P kt (.int .i64 n) = some (.int .i64 n) := Maps.keyOf_int_mk hku (keyOk_wf hn)
  refine ⟨rfl, ?_⟩
  cases Ry with
  | dat Ry => cases Ry with
   | int =>
    cases Rx with
    | dat Rx => cases Rx with
     | nilm =>
      have hl := Maps.look_nil (w := w) ok K hu hzv key
      refine ⟨if ok then .tuple #[zv, .bool false] else zv, ?_, ?_⟩
      ·simp [execOp, hop, hvx, hvy, hl]
      ·unfold mgetV
       cases ok
       ·exact .dat hzd
       ·refine .tup _ _ rfl fun j c v hc hv => ?_
        match j with
        | 0 => simp at hc hv; subst hc hv; exact .dat hzd
        | 1 => simp at hc hv; subst hc hv; exact .dat (.bool _)
        | j + 2 => simp at hc
theorem mlen_sound {c : Call} (hop : o.op = .call c) (hc : c.callee = .builtin .len) (ht : opT P o = some xo) {m : XO} (hxo : xo = .mlen m) (he : evalOp cf env H xo = some (av, H')) (hE : EnvR C w a env) (hH : RH C w Hp)
  (hT : ∀ id ∈ (touched env H xo).1, Hp id = H[id]?) : H' = H ∧ PureOk P C w a o av := by
 obtain ⟨callee, args, argTypes⟩ := c
 simp only at hc; subst hc
 subst hxo
 simp only [opT, hop] at ht
 split at ht <;> first | (cases ht; done) | skip
 rename_i t x htt hxx
 have hmap : (args.map a.eval)[0]? = some (a.eval x) := by simp [hxx]
 have hu : (∃ k e, P.underlying t = some (.map k e)) ∧ operandT P (some t) x = some m := by
  split at ht <;> first | (cases ht; done) | skip
  ·simp only [Option.map_eq_some_iff] at ht; obtain ⟨_, _, h⟩ := ht; cases h
  ·simp only [Option.map_eq_some_iff] at ht; obtain ⟨_, _, h⟩ := ht; cases h
  ·rename_i k e hu
   split at ht <;> first | (cases ht; done) | skip
   simp only [Option.map_eq_some_iff, XOp.mlen.injEq] at ht; obtain ⟨m', hm, rfl⟩ := ht
   exact ⟨⟨_, _, hu⟩, hm⟩
 obtain ⟨⟨kt, et, hu⟩, hx⟩ := hu
 have R := operand_sound hx hE
 generalize hv : a.eval x = v at R hmap
 simp only [evalOp] at he
 split at he <;> first | (cases he; done) | skip
 ·rename_i id ex
  rw [ex] at R
  split at he <;> first | (cases he; done) | skip
  rename_i l hb
  simp only [Option.some.injEq, Prod.mk.injEq] at he; obtain ⟨rfl, rfl⟩ := he
  simp only [touched, ex] at hT
  have hB := hH.blk id _ ((hT id (by simp [AV.refs])).trans hb)
  refine ⟨rfl, .int .i64 (mcount l), ?_, .dat (.int _ _)⟩
  cases R with
  | mref _ b hD hρ =>
   cases hB with
   | mp _ b' es ck hρ' hbk hF hst hsz hl hk hs =>
    rw [hρ] at hρ'; injection hρ' with hρ'; subst hρ'
    simp [execOp, hop, resolve, invoke, builtin, Builtin.len_, htt, hmap, run_underlying hu, MapKept.run_getObj_map hbk, goInt, Result.andThen, hsz]
 ·rename_i ex
  rw [ex] at R
  simp only [Option.some.injEq, Prod.mk.injEq] at he; obtain ⟨rfl, rfl⟩ := he
  refine ⟨rfl, .int .i64 0, ?_, .dat (.int _ _)⟩
  cases R with
  | dat R => cases R with
   | nilm => simp [execOp, hop, resolve, invoke, builtin, Builtin.len_, htt, hmap, run_underlying hu, goInt]
theorem set_heap_other (w : World) (b k : Nat) (ob : Obj) (h : k ≠ b) : ({ w with heap := w.heap.setIfInBounds b ob } : World).heap[k]? = w.heap[k]? := Array.getElem?_setIfInBounds_ne (Ne.symm h)
theorem set_heap_same (w : World) (b : Nat) (ob : Obj) (h : b < w.heap.size) : ({ w with heap := w.heap.setIfInBounds b ob } : World).heap[b]? = some ob := by simp [h]
theorem mput_sound {t : TypeId} {x y z : Operand} (hop : o.op = .mapUpdate t x y z) (ht : opT P o = some xo) (he : evalOp cf env H xo = some (av, H')) (hE : EnvR C w a env) (hH : RH C w Hp)
  (hT : ∀ id ∈ (touched env H xo).1, Hp id = H[id]?) : MemOk P C w a o Hp H H' (touched env H xo).2 av := by
 simp only [opT, hop] at ht
 split at ht <;> first | (cases ht; done) | skip
 rename_i kt et hu
 split at ht <;> first | (cases ht; done) | skip
 rename_i hku
 simp only [Option.bind_eq_bind, Option.bind_eq_some_iff, Option.some.injEq] at ht
 obtain ⟨x', hx, y', hy, z', hz, rfl⟩ := ht
 have Rx := operand_sound hx hE
 have Ry := operand_sound hy hE
 have Rz := operand_sound hz hE
 generalize hvx : a.eval x = vx at Rx
 generalize hvy : a.eval y = vy at Ry
 generalize hvz : a.eval z = vz at Rz
 have K := Maps.int_keyed hku
 simp only [evalOp] at he
 split at he <;> first | (cases he; done) | skip
 rename_i id n ex ey
 rw [ex] at Rx; rw [ey] at Ry
 split at he <;> first | (cases he; done) | skip
 rename_i hn
 split at he <;> first | (cases he; done) | skip
 rename_i l d hb hd
 split at he <;> first | (cases he; done) | skip
 rename_i hlim
 simp only [Option.some.injEq, Prod.mk.injEq] at he; obtain ⟨rfl, rfl⟩ := he
 have key : keyOf P kt (.int .i64 n) = some (.int .i64 n) := Maps.keyOf_int_mk hku (keyOk_wf hn)
 simp only [touched, ex, AV.refs] at hT ⊢
 have hp := hT id (by simp)
 have hB := hH.blk id _ (hp.trans hb)
 have hzd : RD C.Fz w vz d := by
  have : ∀ (x : AV) (d : Dat), x.toDat [] = some d → ∀ v, RV C w v x → RD C.Fz w v d := by
   intro x d h v hv
   have hno : ∀ (x : AV), (∃ d, x.toDat [] = some d) → ∀ i ∈ x.refs, False := by
    have two : (∀ (x : AV), (∃ d, x.toDat [] = some d) → ∀ i ∈ x.refs, False) ∧ True := ⟨fun x => toDat_nil_refs x, trivial⟩
    exact two.1
   exact toDat_sound (H := []) (Hp := fun _ => none) ⟨fun _ _ h => (by cases h), fun _ _ h => (by cases h), fun _ _ _ _ _ h => (by cases h), hH.lt⟩ C.Fz (fun _ h => h) x d h (fun i hi => (hno x ⟨d, h⟩ i hi).elim) (fun i hi => (hno x ⟨d, h⟩ i hi).elim) v hv
  exact this _ _ hd _ Rz
 cases Ry with
 | dat Ry => cases Ry with
  | int =>
   cases Rx with
   | mref _ b hD hρ =>
    cases hB with
    | mp _ b' es ck hρ' hbk hF hst hsz hl hk hs =>
     rw [hρ] at hρ'; injection hρ' with hρ'; subst hρ'
     have hblt : b < w.heap.size := (Array.getElem?_eq_some_iff.1 hbk).1
     have hFz : ctxFz C H [] = C := by
      unfold ctxFz
      cases C; simp
     have fin : ∀ (es' : Array MapEntry) (ck' : Nat), (execOp a.eval o).run P w = .ok .skip { w with heap := w.heap.setIfInBounds b (.map es' ck') } → MapKept.Stamped es' ck' → es'.size = mcount ((n, d) :: l) →
       (∀ x ∈ es'.toList, (x.key = .int .i64 n ∧ x.val = vz) ∨ (x.key ≠ .int .i64 n ∧ x ∈ es.toList)) → (∃ x ∈ es'.toList, x.key = .int .i64 n) → (∀ x ∈ es.toList, x.key ≠ .int .i64 n → x ∈ es'.toList) →
       MemOk P C w a o Hp H (H.set id (.mp ((n, d) :: l))) [id] .top := fun es' ck' hrun hst' hsz' hmem hnew hold => by
      refine ⟨undef, _, C, .inr ⟨hrun, rfl⟩, .top _, ?_⟩
      have hL := Local.turn (w' := { w with heap := w.heap.setIfInBounds b (.map es' ck') }) (b' := .mp ((n, d) :: l)) hH (g := b) [] hb hp (by simp) (by rw [hρ]; rfl) (fun i hi => by cases hi) (fun i hi => by cases hi) rfl rfl rfl (by simp)
       (fun k hk => set_heap_other w b k _ hk) ?_ (fun k hk => by rw [hρ] at hk ⊢; exact hk)
      ·rw [hFz, freeze_nil] at hL
       exact hL
      ·rw [hFz]
       have hK : Keeps C C w { w with heap := w.heap.setIfInBounds b (.map es' ck') } := ⟨fun _ h => h, fun k hk => set_heap_other w b k _ (fun e => hF (e ▸ hk)), fun _ h => h, fun _ _ => rfl, fun _ _ => rfl⟩
       refine .mp _ b es' ck' hρ (set_heap_same w b _ hblt) hF hst' hsz' (by simp only [List.length_cons]; omega) (fun x hx => ?_) (fun m e hm => ?_)
       ·rcases hmem x hx with ⟨h1, h2⟩ | ⟨h1, h2⟩
        ·exact ⟨n, h1, hn, d, by simp [mlook], by rw [h2]; exact hzd.keeps hK.fz hK.blk⟩
        ·obtain ⟨m, g1, g2, e, g3, g4⟩ := hk x h2
         refine ⟨m, g1, g2, e, ?_, g4.keeps hK.fz hK.blk⟩
         simp only [mlook]
         rw [if_neg (fun h => h1 (by rw [g1, h])), g3]
       ·simp only [mlook] at hm
        split at hm
        ·rename_i h; subst h; exact hnew
        ·rename_i h
         obtain ⟨x, hx, hxk⟩ := hs m e hm
         exact ⟨x, hold x hx (by rw [hxk]; intro h2; injection h2 with _ h2; exact h h2.symm), hxk⟩
     rcases look_mp (P := P) (w := w) hk hs hku hn with ⟨h1, h2, h3⟩ | ⟨j, e, d0, h1, h2, h3, h4, h5⟩
     ·refine fin (es.push ⟨.int .i64 n, vz, ck⟩) (ck + 1) ?_ (MapKept.stamped_push hst h2) ?_ (fun x hx => ?_) ⟨⟨.int .i64 n, vz, ck⟩, by simp, rfl⟩ (fun x hx _ => by simp [hx])
      ·simp [execOp, hop, hvx, hvy, hvz, Instr.mapUpdate, run_underlying hu, MapKept.run_getObj_map hbk, K.check w false key, h1, MapKept.run_setObj_map _ hbk, Result.andThen]
      ·simp [mcount, h3, hsz]; omega
      ·simp only [Array.toList_push, List.mem_append, List.mem_singleton] at hx
       rcases hx with hx | rfl
       ·exact .inr ⟨h2 x hx, hx⟩
       ·exact .inl ⟨rfl, rfl⟩
     ·have hj : es[j]? = some e := by simpa using h2
      have hjl : j < es.toList.length := (List.getElem?_eq_some_iff.1 h2).1
      have hkeyf : ∀ e' ∈ es.toList, es[j]? = some e' → ({ e' with key := .int .i64 n, val := vz } : MapEntry).key = e'.key := fun e' _ he' => by rw [hj] at he'; cases he'; exact h3.symm
      have hlist : (es.modify j (fun e' => { e' with key := .int .i64 n, val := vz })).toList = es.toList.set j { e with key := .int .i64 n, val := vz } := by
       rw [Array.toList_modify]
       refine List.ext_getElem? fun i => ?_
       rw [List.getElem?_modify, List.getElem?_set]
       by_cases hi : j = i
       ·subst hi; simp [h2]; simpa using hjl
       ·simp [hi]
      have hnd : (es.toList.map (·.key)).Nodup := hst.2.2
      have uniq : ∀ (i : Nat) (x : MapEntry), es.toList[i]? = some x → x.key = .int .i64 n → i = j := fun i x hx hxk => by
       obtain ⟨l1, e1⟩ := List.getElem?_eq_some_iff.1 hx
       obtain ⟨l2, e2⟩ := List.getElem?_eq_some_iff.1 h2
       refine (List.getElem_inj (xs := es.toList.map (·.key)) (h₀ := by simpa using l1) (h₁ := by simpa using l2) hnd).1 ?_
       simp [e1, e2, hxk, h3]
      refine fin (es.modify j (fun e' => { e' with key := .int .i64 n, val := vz })) ck ?_ (MapKept.stamped_modify hst _ _ (fun _ _ => rfl) hkeyf) ?_ (fun x hx => ?_) ⟨{ e with key := .int .i64 n, val := vz }, ?_, rfl⟩ (fun x hx hne => ?_)
      ·simp [execOp, hop, hvx, hvy, hvz, Instr.mapUpdate, run_underlying hu, MapKept.run_getObj_map hbk, K.check w false key, h1, hj, h3, K.stays w key, MapKept.run_setObj_map _ hbk, Result.andThen]
      ·simp [mcount, h4, hsz]
      ·rw [hlist] at hx
       obtain ⟨i, hi, ex⟩ := List.getElem_of_mem hx
       rw [List.getElem_set] at ex
       split at ex
       ·exact .inl (by rw [← ex]; exact ⟨rfl, rfl⟩)
       ·rename_i hne
        have hi' : i < es.toList.length := by simpa using hi
        refine .inr ⟨fun hxk => hne (uniq i x (by rw [List.getElem?_eq_getElem hi', ex]) hxk).symm, ex ▸ List.getElem_mem hi'⟩
      ·rw [hlist]; exact List.mem_iff_getElem.2 ⟨j, by simpa using hjl, by simp⟩
      ·rw [hlist]
       obtain ⟨i, hi, ex⟩ := List.getElem_of_mem hx
       refine List.mem_iff_getElem.2 ⟨i, by simpa using hi, ?_⟩
       rw [List.getElem_set, if_neg (fun e2 => ?_)]
       ·exact ex
       ·subst e2
        have : x = e := by
         have := List.getElem?_eq_getElem hi
         rw [h2] at this; injection this with this; rw [← ex, ← this]
        exact hne (this ▸ h3)
end Go.Ax
