/-
  The functions that oplog.Check calls and that the interpreter knows: their contracts.
-/
import Derived.Test.YtfoglingdnhjpaaGreatDoorXFall
import Derived.Test.YtfoglingdnhjpaaGreatDoorXNat
import Derived.Test.YtfoglingdnhjpaaGreatDoorXSpec
import Derived.Test.YtfoglingdnhjpaaGreatDoorChecked
import Derived.Maps.OwnSet
import Derived.Maps.Keyed
import Derived.Maps.OwnOps
import Derived.WalkKit
import Derived.RangeFuncWrites
import Derived.RangeFuncLeaves
import Derived.TacticsInMore
import Derived.LoopNIn
import Derived.LoopIn
import Derived.Maps.OwnIn
import Derived.RangeFuncNested
import Derived.Shelf.Abstract
import Derived.OwnWalkIn
namespace Go.Ax
set_option linter.all false
open Go.RowKit Go.Proofs
set_option maxRecDepth 100000
local instance (priority := 10000) noG : Gls := ⟨fun _ => none, fun _ => false⟩
theorem ro_joined : progT Tryz.prog 176 = some xf_oplog_joined.plain := by kernel_rfl
theorem ro_ledger : progT Tryz.prog 147 = some xf_ledger_Check.plain := by kernel_rfl
structure Clean (C : Ctx) (w : World) : Prop where
 heap : RH C w (at_ [])
 none : ∀ i, ¬ C.D i
theorem clean_of {C C' : Ctx} {w w' : World} (hc : Clean C w) (L : Local C C' w w' [] [] (at_ []) (List.range ([] : List Blk).length)) : Clean C' w' ∧ (Keeps C C' w w' ∧ ∀ k, C'.Fz k → C.Fz k ∨ w.heap.size ≤ k) ∧ Below w.heap.size w w' := by
 refine ⟨⟨⟨fun i b h => by simp [at_] at h, fun i b h => by simp [at_] at h, fun i j b b' k h => by simp [at_] at h, L.ltF⟩, fun i hi => ?_⟩, ⟨L.keeps, fun k hk => ?_⟩, ⟨L.os, L.tape, L.output, L.size, fun k hk => ?_⟩⟩
 ·rcases (L.dom i).1 hi with h | h
  ·exact hc.none i h
  ·simp at h
 ·rcases L.newF k hk with h | h | ⟨i, hi, _⟩
  ·exact .inl h
  ·exact .inr h
  ·simp at hi
 ·rcases L.frame k hk with h | ⟨i, hi, _⟩
  ·exact h
  ·simp at hi
theorem pure_calls {P : Program} (hm : P.follows .mixedOrders = true) {T0 : Nat → Option XFunc} (hT : ∀ f xf, T0 f = some xf → FOk P f xf) {n d f : Nat} {args : List AV} {r : AV} (h : runFn T0 n d f args [] = some (r, []))
  {C : Ctx} {w : World} {vs : List Value} (hR : RL C w vs args) (hc : Clean C w) : Calls P f vs.toArray w fun e w' => ∃ v C', e = .returned v ∧ RV C' w' v r ∧ Clean C' w' ∧ (Keeps C C' w w' ∧ ∀ k, C'.Fz k → C.Fz k ∨ w.heap.size ≤ k) ∧ Below w.heap.size w w' := by
 refine ((runFn_sound hm hT n d).calls f args [] r [] h C w vs hR hc.heap (fun i => ⟨fun hi => absurd hi (hc.none i), fun hi => by simp at hi⟩) (fun g ds h => by cases h)).mono ?_
 rintro e w' ⟨v, C', rfl, hv, hL⟩
 obtain ⟨h1, h2, h3⟩ := clean_of hc hL
 exact ⟨v, C', rfl, hv, h1, h2, h3⟩
def TO : Nat → Option XFunc
 | 176 => some xf_oplog_joined
 | 147 => some xf_ledger_Check
 | _ => none
theorem TO_ok : ∀ f xf, TO f = some xf → FOk Tryz.prog f xf := by
 intro f xf h
 unfold TO at h
 split at h
 ·cases h; exact .inl ⟨rfl, rfl, ro_joined⟩
 ·cases h; exact .inl ⟨rfl, rfl, ro_ledger⟩
 ·cases h
theorem joined_eval (l : List Ent) (hl : l.length ≤ 1048577) : runFn TO 1 1 176 [.dat (encLog l), .nil 50 5 true] [] = some (.dat (encLog l), []) := by
 have h1 : l.length ≤ LIM := by simp only [LIM]; omega
 have hw : IntKind.wrap .i64 (l.length : Int) = l.length := by simp [IntKind.wrap, IntKind.bits, IntKind.signed]; omega
 have h2 : (l.length : Int) ≤ (LIM : Int) := by simp only [LIM]; omega
 rw [runFn_succ]
 simp [TO, xf_oplog_joined, h1, h2, hw]
 have ht : (l.map encE).take l.length = l.map encE := List.take_of_length_le (by simp)
 by_cases hn : l = []
 ·subst hn; simp
 ·have hp : 0 < l.length := List.length_pos_iff.2 hn
  simp [hp, ht]
theorem ledger_eval (o : LOp) : runFn TO 1 1 147 [.dat (encOp o)] [] = some (.dat (di (opErr o)), []) := by
 rw [runFn_succ]
 simp [TO, xf_ledger_Check]
 unfold opErr
 by_cases h1 : o.kind = 1
 ·simp [h1]
  split <;> first | rfl | (split <;> simp_all <;> omega)
 ·by_cases h3 : o.kind = 3
  ·simp [h3]
  ·by_cases h2 : o.kind = 2
   ·simp [h2]
    by_cases hs : o.slot = 0
    ·simp [hs]; split <;> simp_all <;> omega
    ·simp [hs]
   ·by_cases h4 : o.kind = 4
    ·simp [h4]
    ·simp [h1, h2, h3, h4]
theorem joined_calls {C : Ctx} {w : World} {v : Value} (l : List Ent) (hl : l.length ≤ 1048577) (hv : RD C.Fz w v (encLog l)) (hc : Clean C w) : Calls Tryz.prog 176 #[v, .slice none 0 0] w fun e w' =>
  ∃ v' C', e = .returned v' ∧ RD C'.Fz w' v' (encLog l) ∧ Clean C' w' ∧ (Keeps C C' w w' ∧ ∀ k, C'.Fz k → C.Fz k ∨ w.heap.size ≤ k) ∧ Below w.heap.size w w' := by
 have h := pure_calls (Checked.mixed Tryz.checked) TO_ok (joined_eval l hl) (C := C) (w := w) (vs := [v, .slice none 0 0]) ?_ hc
 ·refine h.mono ?_
  rintro e w' ⟨v', C', rfl, hv', h1, h2, h3⟩
  cases hv' with
  | dat hv' => exact ⟨v', C', rfl, hv', h1, h2, h3⟩
 ·refine ⟨rfl, fun j x y hx hy => ?_⟩
  match j with
  | 0 =>
   simp only [List.getElem?_cons_zero, Option.some.injEq] at hx hy
   subst hx hy
   exact .dat hv
  | 1 =>
   simp only [List.getElem?_cons_succ, List.getElem?_cons_zero, Option.some.injEq] at hx hy
   subst hx hy
   exact .nil none _ _ _
  | j + 2 => simp at hx
abbrev opV (o : LOp) : Value := .agg #[.int .i64 o.kind, .int .i64 o.slot, .string o.value]
theorem rd_op (F : Nat → Prop) (w : World) (o : LOp) : RD F w (opV o) (encOp o) := by
 refine .agg _ _ rfl fun j d v hd hv => ?_
 match j with
 | 0 => simp at hd hv; subst hd hv; exact .int _ _
 | 1 => simp at hd hv; subst hd hv; exact .int _ _
 | 2 => simp at hd hv; subst hd hv; exact .str _
 | j + 3 => simp at hd
def C0 : Ctx := ⟨fun _ => .none, fun _ => 0, fun _ => False, fun _ => False⟩
theorem clean0 (w : World) : Clean C0 w := ⟨⟨fun i b h => by simp [at_] at h, fun i b h => by simp [at_] at h, fun i j b b' k h => by simp [at_] at h, fun b h => h.elim⟩, fun i h => h⟩
theorem ledger_calls (w : World) (o : LOp) : Calls Tryz.prog 147 #[opV o] w fun e w' => e = .returned (.int .i64 (opErr o)) ∧ Below w.heap.size w w' := by
 refine (pure_calls (Checked.mixed Tryz.checked) TO_ok (ledger_eval o) (C := C0) (w := w) (vs := [opV o]) ⟨rfl, fun j x y hx hy => ?_⟩ (clean0 w)).mono ?_
 ·match j with
  | 0 =>
   simp only [List.getElem?_cons_zero, Option.some.injEq] at hx hy
   subst hx hy
   exact .dat (rd_op _ _ o)
  | j + 1 => simp at hx
 ·rintro e w' ⟨v', C', rfl, hv', _, _, h3⟩
  cases hv' with
  | dat hv' => cases hv' with
   | int k n => exact ⟨rfl, h3⟩
end Go.Ax
namespace Go.Ax
set_option linter.all false
open Go.RowKit Go.Proofs
set_option maxRecDepth 100000
set_option maxHeartbeats 1000000
abbrev entV (e : Ent) : Value := .agg #[.int .i64 e.client, .int .i64 e.number, .int .i64 e.op.kind, .int .i64 e.op.slot, .string e.op.value]
def anyInt : Value → Option (DataW Unit × List MemPlace)
 | .int .i64 n => some (.lit (.int .i64 n), [])
 | _ => none
theorem anyInt_inv {v : Value} {d : DataW Unit} {ps : List MemPlace} (h : anyInt v = some (d, ps)) : ∃ c : Int, v = .int .i64 c ∧ d = .lit (.int .i64 c) := by
 unfold anyInt at h
 split at h
 ·rename_i n
  simp only [Option.some.injEq, Prod.mk.injEq] at h
  exact ⟨n, rfl, h.1.symm⟩
 ·cases h
theorem zeroInt (w : World) : (zeroValue 3).run Tryz.prog w = .ok (.int .i64 0) w := by kernel_rfl
theorem owns_at {P : Program} {k : TypeId} {R : Value → Option (DataW Unit × List MemPlace)} {w w' : World} {b n : Nat} {D : DataW Unit} (h : w.ownsMap P k R b n D) (hb : Below w.heap.size w w') : w'.ownsMap P k R b n D := by
 obtain ⟨es, ck, hh, r⟩ := h
 exact ⟨es, ck, (hb.block b (Array.getElem?_eq_some_iff.1 hh).1).trans hh, r⟩
def Fit (D : DataW Unit) (e : Ent) (r : Int) : Prop :=
 (entErr1 e ≠ 0 ∧ r = entErr1 e) ∨ (entErr1 e = 0 ∧ Maps.has D (.int .i64 e.client) = true ∧ (∃ c : Int, D.atKey (.int .i64 e.client) (.lit (.int .i64 0)) = .lit (.int .i64 c) ∧ e.number ≤ c) ∧ r = 64) ∨
  (entErr1 e = 0 ∧ (Maps.has D (.int .i64 e.client) = true → ∃ c : Int, D.atKey (.int .i64 e.client) (.lit (.int .i64 0)) = .lit (.int .i64 c) ∧ c < e.number) ∧ r = 0)
theorem fits_calls (w : World) (b n : Nat) (D : DataW Unit) (hown : w.ownsMap Tryz.prog 3 anyInt b n D) (e : Ent) : Calls Tryz.prog 149 #[.map (some b), entV e] w fun e' w' => ∃ r, e' = .returned (.int .i64 r) ∧ Fit D e r ∧ Below w.heap.size w w' := by
 go_enter Tryz.func149, Tryz.ntmps149
 go_wp2_with (first
  | (at_lookup; refine wpList_lookup_own_ok _ rfl _ _ 200 rfl 3 3 (Maps.int_keyed Tryz.underlying3) Tryz.underlying200 anyInt (zeroInt _) (.lit (.int .i64 0)) [] rfl b n D rfl hown1 _ (.int .i64 e.client) rfl (Maps.keyOf_int_mk Tryz.underlying3 (by simp [Lit.wf, IntKind.min, IntKind.max, IntKind.signed, IntKind.bits]; omega)) ?_; intro v ps hv; obtain ⟨c, rfl, hat⟩ := anyInt_inv hv)
  | (go_at_call 147; refine (ledger_calls _ e.op).mono ?_; rintro e' w' ⟨rfl, hb⟩; have c0 := hb.cell (p := ⟨w.heap.size, 0, none⟩) (by simp); have c1 := hb.cell (p := ⟨w.heap.size, 1, none⟩) (by simp); simp [go_sem] at c0 c1; have hb1 : Below w.heap.size w w' := ((Below.refl _ w).alloc (Nat.le_refl _) _).trans (hb.mono (by simp)); have hown1 := owns_at hown hb1))
 all_goals go_ret
 ·rename_i h1 h2
  refine ⟨_, rfl, .inl ⟨?_, ?_⟩, (Below.refl _ w).alloc (Nat.le_refl _) _⟩ <;> simp only [entErr1] <;> rw [if_pos (by omega)] <;> simp
 ·rename_i h1 h2
  refine ⟨_, rfl, .inl ⟨?_, ?_⟩, (Below.refl _ w).alloc (Nat.le_refl _) _⟩ <;> simp only [entErr1] <;> rw [if_neg (by omega), if_pos h2] <;> simp
 ·rename_i h
  have ho : opErr e.op ≠ 0 := by simpa using h
  have hE : entErr1 e = opErr e.op := by simp only [entErr1]; rw [if_neg (by omega), if_neg (by omega)]
  exact ⟨_, rfl, .inl ⟨by rw [hE]; exact ho, hE.symm⟩, hb1⟩
 ·rename_i h1 h2
  have ho : opErr e.op = 0 := by simp_all
  have hE : entErr1 e = 0 := by simp only [entErr1]; rw [if_neg (by omega), if_neg (by omega), ho]
  exact ⟨_, rfl, .inr (.inl ⟨hE, h1, ⟨_, hat, h2⟩, rfl⟩), hb1⟩
 ·rename_i h1 h2
  have ho : opErr e.op = 0 := by simp_all
  have hE : entErr1 e = 0 := by simp only [entErr1]; rw [if_neg (by omega), if_neg (by omega), ho]
  exact ⟨_, rfl, .inr (.inr ⟨hE, fun _ => ⟨_, hat, h2⟩, rfl⟩), hb1⟩
 ·rename_i h1
  have ho : opErr e.op = 0 := by simp_all
  have hE : entErr1 e = 0 := by simp only [entErr1]; rw [if_neg (by omega), if_neg (by omega), ho]
  exact ⟨_, rfl, .inr (.inr ⟨hE, fun h => absurd h h1, rfl⟩), hb1⟩
 ·rename_i h1
  refine ⟨_, rfl, .inl ⟨?_, ?_⟩, (Below.refl _ w).alloc (Nat.le_refl _) _⟩ <;> simp only [entErr1] <;> rw [if_pos (by omega)] <;> simp
end Go.Ax
namespace Go.Ax
set_option linter.all false
open Go.RowKit Go.Proofs
set_option maxRecDepth 100000
set_option maxHeartbeats 1000000
theorem Clean.below {C : Ctx} {w w' : World} (h : Clean C w) (hb : Below w.heap.size w w') : Clean C w' :=
 ⟨⟨fun i b h => by simp [at_] at h, fun i b h => by simp [at_] at h, fun i j b b' k h => by simp [at_] at h, fun b hF => Nat.lt_of_lt_of_le (h.heap.lt b hF) hb.size⟩, h.none⟩
theorem Clean.rd {C : Ctx} {w w' : World} {v : Value} {x : Dat} (h : Clean C w) (hb : Below w.heap.size w w') (hv : RD C.Fz w v x) : RD C.Fz w' v x :=
 hv.keeps (fun _ h => h) (fun b hF => hb.block b (h.heap.lt b hF))
theorem rd_slice {F : Nat → Prop} {w : World} {v : Value} {sz : Nat} {fl : Bool} {xs : List Dat} (h : RD F w v (.sl sz fl xs)) : ∃ a k c, v = .slice a k c := by
 generalize hd : Dat.sl sz fl xs = d at h
 cases h <;> first | exact ⟨_, _, _, rfl⟩ | cases hd
theorem each_calls {C : Ctx} {w : World} {v : Value} (l : List Ent) (hl : l.length ≤ 1048577) (hv : RD C.Fz w v (encLog l)) (hc : Clean C w) : Calls Tryz.prog 148 #[v, .int .i64 1] w fun e w' =>
  ∃ B1 B2 v' C', e = .returned (.func (.func 177) #[] #[.pointer (some ⟨B1, 0, none⟩), .pointer (some ⟨B2, 0, none⟩)]) ∧ w'.cell? ⟨B1, 0, none⟩ = some (.int .i64 1) ∧ w'.cell? ⟨B2, 0, none⟩ = some v' ∧
   RD C'.Fz w' v' (encLog l) ∧ Clean C' w' ∧ Below w.heap.size w w' ∧ w.heap.size ≤ B1 ∧ w.heap.size ≤ B2 ∧ ∀ k, C'.Fz k → C.Fz k ∨ w.heap.size ≤ k := by
 go_enter Tryz.func148, Tryz.ntmps148
 have hb0 : Below w.heap.size w (w.alloc (.cells #[.int .i64 1] 3)) := (Below.refl _ w).alloc (Nat.le_refl _) _
 go_wp2_with (go_at_call 176; refine (joined_calls l hl (C := C) (hc.rd hb0 hv) (hc.below hb0)).mono ?_; rintro e w' ⟨v', C', rfl, hv', hc', ⟨_, hnf⟩, hb⟩; have c0 := hb.cell (p := ⟨w.heap.size, 0, none⟩) (by simp); simp [go_sem] at c0; obtain ⟨sa, sk, sc, rfl⟩ : ∃ a k c, v' = .slice a k c := rd_slice hv')
 go_ret
 have hb2 : Below w'.heap.size w' (w'.alloc (.cells #[.slice sa sk sc] 28)) := (Below.refl _ w').alloc (Nat.le_refl _) _
 have hb3 : Below w.heap.size w w' := hb0.trans (hb.mono (by simp))
 refine ⟨_, _, .slice sa sk sc, C', rfl, (hb2.cell (p := ⟨w.heap.size, 0, none⟩) ?_).trans c0, by simp [go_sem], hc'.rd hb2 hv', hc'.below hb2, hb3.trans (hb2.mono hb3.size), Nat.le_refl _, hb3.size, fun k hk => (hnf k hk).imp id (fun h => Nat.le_trans (by simp) h)⟩
 have := hb.size
 simp at this
 show w.heap.size < w'.heap.size
 omega
end Go.Ax
namespace Go.Ax
set_option linter.all false
open Go.RowKit Go.Proofs
set_option maxRecDepth 100000
set_option maxHeartbeats 2000000
def yielded (l : List Ent) : List (Int × Ent) := l.mapIdx fun i e => ((i : Int) + 1, e)
theorem yielded_length (l : List Ent) : (yielded l).length = l.length := by simp [yielded]
theorem yielded_get (l : List Ent) (i : Nat) (h : i < l.length) : (yielded l)[i]'(by rw [yielded_length]; exact h) = ((i : Int) + 1, l[i]) := by simp [yielded]
theorem yielded_take (l : List Ent) (i : Nat) (h : i < l.length) : (yielded l).take i ++ [((i : Int) + 1, l[i])] = (yielded l).take (i + 1) := by
 rw [← yielded_get l i h, List.take_succ_eq_append_getElem (by rw [yielded_length]; exact h)]
theorem log_cells {Fz : Nat → Prop} {w : World} {v : Value} {l : List Ent} (h : RD Fz w v (encLog l)) : (l = [] ∧ ∃ a c, v = .slice a 0 c) ∨
  ∃ b off cap, v = .slice (some ⟨b, off, none⟩) l.length cap ∧ Fz b ∧ ∀ (k : Nat) (hk : k < l.length), w.cell? ⟨b, off + k * 5, none⟩ = some (.int .i64 l[k].client) ∧ w.cell? ⟨b, off + (k * 5 + 1), none⟩ = some (.int .i64 l[k].number) ∧
   w.cell? ⟨b, off + (k * 5 + 2), none⟩ = some (.int .i64 l[k].op.kind) ∧ w.cell? ⟨b, off + (k * 5 + 3), none⟩ = some (.int .i64 l[k].op.slot) ∧ w.cell? ⟨b, off + (k * 5 + 4), none⟩ = some (.string l[k].op.value) := by
 generalize hd : encLog l = d at h
 cases h <;> first | (cases hd; done) | skip
 ·injection hd with _ _ hd
  exact .inl ⟨by simpa using hd, _, _, rfl⟩
 ·rename_i ad cap sz fl xs vs hne hF hcap hs hfl hv hr
  injection hd with h1 h2 h3
  subst h3
  right
  have hne' : l ≠ [] := fun e => hne (by rw [e]; rfl)
  have get : ∀ (k j : Nat) (hk : k < l.length) (d : Dat), (encE l[k]).cells[j]? = some d → j < 5 → (flatten (l.map encE))[k * 5 + j]? = some d := fun k j hk d hj h5 => by
   exact flatten_get (sz := 5) (fun x hx => by obtain ⟨e, _, rfl⟩ := List.mem_map.1 hx; rfl) (show (l.map encE)[k]? = some (encE l[k]) by simp [hk]) hj
  have hsp : ad.spot = none := by
   have h0 : 0 < l.length := List.length_pos_iff.2 hne'
   have := (hv _ _ (get 0 0 h0 _ rfl (by omega))).1
   simp only [Nat.zero_mul, Nat.add_zero, addr_add_zero] at this
   unfold World.cell? at this
   split at this <;> first | (cases this; done) | skip
   split at this <;> first | (cases this; done) | skip
   rename_i h; simpa using h
  obtain ⟨b, off, sp⟩ := ad
  simp only at hsp; subst hsp
  refine ⟨b, off, cap, by simp, hF, fun k hk => ?_⟩
  have key : ∀ (j : Nat) (d : Dat), (encE l[k]).cells[j]? = some d → j < 5 → ∃ u, w.cell? ⟨b, off + (k * 5 + j), none⟩ = some u ∧ RD Fz w u d := fun j d hj h5 => by
   have h1 := hv _ _ (get k j hk d hj h5)
   have h2 := hr _ _ (get k j hk d hj h5)
   refine ⟨_, ?_, h2⟩
   rw [← h1.1]
   congr 1
   unfold Addr.add
   split
   ·rename_i h; rw [h]; rfl
   ·rfl
  obtain ⟨u0, c0, r0⟩ := key 0 _ rfl (by omega)
  obtain ⟨u1, c1, r1⟩ := key 1 _ rfl (by omega)
  obtain ⟨u2, c2, r2⟩ := key 2 _ rfl (by omega)
  obtain ⟨u3, c3, r3⟩ := key 3 _ rfl (by omega)
  obtain ⟨u4, c4, r4⟩ := key 4 _ rfl (by omega)
  cases r0; cases r1; cases r2; cases r3; cases r4
  exact ⟨c0, c1, c2, c3, c4⟩
def KpE (Fz : Nat → Prop) (B1 B2 : Nat) (W W' : World) : Prop := W.heap.size ≤ W'.heap.size ∧ ∀ k, (Fz k ∨ k = B1 ∨ k = B2) → W'.heap[k]? = W.heap[k]?
theorem KpE.refl (Fz : Nat → Prop) (B1 B2 : Nat) (W : World) : KpE Fz B1 B2 W W := ⟨Nat.le_refl _, fun _ _ => rfl⟩
theorem KpE.trans {Fz : Nat → Prop} {B1 B2 : Nat} {W W1 W2 : World} (h : KpE Fz B1 B2 W W1) (k : KpE Fz B1 B2 W1 W2) : KpE Fz B1 B2 W W2 := ⟨Nat.le_trans h.1 k.1, fun i hi => (k.2 i hi).trans (h.2 i hi)⟩
theorem KpE.cell {Fz : Nat → Prop} {B1 B2 : Nat} {W W' : World} (h : KpE Fz B1 B2 W W') {a : Addr} (ha : Fz a.block ∨ a.block = B1 ∨ a.block = B2) : W'.cell? a = W.cell? a := World.cell?_of_block (h.2 _ ha)
theorem each1_stops (F : Fence) (n : Nat) (hF : F.fn 177) (hro : F.round = none) (hn : 1 ≤ n) (B1 B2 : Nat) (v : Value) (C : Ctx) (l : List Ent) (w : World) (hl : l.length ≤ 1048577) (h1 : w.cell? ⟨B1, 0, none⟩ = some (.int .i64 1)) (h2 : w.cell? ⟨B2, 0, none⟩ = some v)
  (hv : RD C.Fz w v (encLog l)) (hc : Clean C w) (hB1 : B1 < w.heap.size) (hB2 : B2 < w.heap.size) :
  SeqStopsK F n Tryz.prog 177 #[.pointer (some ⟨B1, 0, none⟩), .pointer (some ⟨B2, 0, none⟩)] (fun x : Int × Ent => #[.int .i64 x.1, entV x.2]) (KpE C.Fz B1 B2) (fun ys => ys = yielded l) (fun pre => pre <+: yielded l) l.length w := by
 intro y J Jx W hW _ _ hY h0
 refine callsIn_of_wp Tryz.func177 rfl hF ?_ hro
 simp only [Tryz.ntmps177, List.size_toArray, List.length_cons, List.length_nil, Nat.reduceAdd, Nat.reduceSub, Array.replicate_succ, Array.replicate_zero, List.push_toArray, List.append_toArray, List.nil_append, List.cons_append]
 have e1 : W.cell? ⟨B1, 0, none⟩ = some (.int .i64 1) := (hW.cell (p := ⟨B1, 0, none⟩) hB1).trans h1
 have e2 : W.cell? ⟨B2, 0, none⟩ = some v := (hW.cell (p := ⟨B2, 0, none⟩) hB2).trans h2
 rcases log_cells hv with ⟨rfl, a, c, rfl⟩ | ⟨b, off, cap, rfl, hFb, hcells⟩
 ·gi_wp2
  gi_loopw [4] (fun i wr => i = .int .i64 0 ∧ J [] wr ∧ KpE C.Fz B1 B2 W wr) (fun _ _ => 0)
  case atStart => exact ⟨rfl, h0, KpE.refl _ _ _ _⟩
  case round =>
   obtain ⟨rfl, hJs, hb⟩ := hrel
   have f1 : wr.cell? ⟨B1, 0, none⟩ = some (.int .i64 1) := (hb.cell (a := ⟨B1, 0, none⟩) (.inr (.inl rfl))).trans e1
   have f2 := (hb.cell (a := ⟨B2, 0, none⟩) (.inr (.inr rfl))).trans e2
   gi_wp2
   go_end0
   exact ⟨⟨_, rfl⟩, .inl ⟨_, by simp [yielded], hJs⟩⟩
 ·have hbn : b < w.heap.size := hc.heap.lt b hFb
  gi_wp2
  gi_loopw [4] (fun i wr => ∃ k : Nat, k ≤ l.length ∧ i = .int .i64 k ∧ J ((yielded l).take k) wr ∧ KpE C.Fz B1 B2 W wr) (fun i _ => l.length - (intOf i).toNat)
  case atStart => exact ⟨0, Nat.zero_le _, rfl, h0, KpE.refl _ _ _ _⟩
  case round =>
   obtain ⟨k, hk, rfl, hJs, hb⟩ := hrel
   have f2 := (hb.cell (a := ⟨B2, 0, none⟩) (.inr (.inr rfl))).trans e2
   by_cases hlt : k < l.length
   ·obtain ⟨fn, tmps, assign, body, hy, hR⟩ := hY _ ((k : Int) + 1, l[k]) wr hJs (by rw [List.length_take, yielded_length]; omega)
    dsimp only at hy
    obtain ⟨g0, g1, g2, g3, g4⟩ := hcells k hlt
    have lift : ∀ (o : Nat) (u : Value), w.cell? ⟨b, o, none⟩ = some u → wr.cell? ⟨b, o, none⟩ = some u := fun o u h => (hb.cell (a := ⟨b, o, none⟩) (.inl hFb)).trans ((hW.cell (p := ⟨b, o, none⟩) hbn).trans h)
    have g0 := lift _ _ g0
    have g1 := lift _ _ g1
    have g2 := lift _ _ g2
    have g3 := lift _ _ g3
    have g4 := lift _ _ g4
    simp only [← Nat.add_assoc] at g1 g2 g3 g4
    gi_wp2
    refine hR.mono ?_
    rintro e W3 (⟨rfl, hJ3, hk3⟩ | ⟨rfl, hJx3⟩)
    ·gi_wp2
     go_roundw
     case rel => exact ⟨k + 1, by omega, by simp, by rw [← yielded_take l k hlt]; exact hJ3, hb.trans hk3⟩
     case measure => simp [intOf]; omega
    ·gi_wp2
     refine bodyPost_ret (results_none rfl _ _ _) rfl ?_
     exact ⟨⟨_, rfl⟩, .inr ⟨_, by rw [yielded_take l k hlt]; exact List.take_prefix _ _, hJx3⟩⟩
   ·obtain rfl : k = l.length := by omega
    gi_wp2
    go_end0
    exact ⟨⟨_, rfl⟩, .inl ⟨_, rfl, by rw [List.take_of_length_le (by rw [yielded_length]; omega)] at hJs; exact hJs⟩⟩
end Go.Ax
namespace Go.Ax
set_option linter.all false
open Go.RowKit Go.Proofs
attribute [local go_sem] Oper.semAt_some
set_option maxRecDepth 100000
set_option maxHeartbeats 4000000
def lastD (es : List Ent) : DataW Unit := es.foldl (fun D e => D.put (.int .i64 e.client) (.lit (.int .i64 e.number))) (.map [])
theorem lastD_snoc (es : List Ent) (e : Ent) : lastD (es ++ [e]) = (lastD es).put (.int .i64 e.client) (.lit (.int .i64 e.number)) := by simp [lastD]
theorem client_key {e : Ent} (h : entErr1 e = 0) : keyOf Tryz.prog 3 (.int .i64 e.client) = some (.int .i64 e.client) := by
 have : 0 ≤ e.client ∧ e.client < 16 := by
  unfold entErr1 at h
  split at h
  ·cases h
  ·omega
 exact Maps.keyOf_int_mk Tryz.underlying3 (by simp [Lit.wf, IntKind.min, IntKind.max, IntKind.signed, IntKind.bits]; omega)
structure LastOk (es : List Ent) (D : DataW Unit) : Prop where
 map : Maps.IsMap D
 has : ∀ c : Int, Maps.has D (.int .i64 c) = true ↔ ∃ x ∈ es, x.client = c
 at_ : ∀ c : Int, (∃ x ∈ es, x.client = c) → ∃ m : Int, (∀ z, D.atKey (.int .i64 c) z = .lit (.int .i64 m)) ∧ (∃ x ∈ es, x.client = c ∧ x.number = m) ∧ ∀ x ∈ es, x.client = c → x.number ≤ m
theorem lastOk_nil : LastOk [] (lastD []) := ⟨by simp [lastD, Maps.IsMap], fun c => by simp [lastD, Maps.has], fun c h => by simp at h⟩
theorem entErr_zero {es : List Ent} {e : Ent} (h : entErr es e = 0) : entErr1 e = 0 ∧ ∀ x ∈ es, x.client = e.client → x.number < e.number := by
 unfold entErr at h
 split at h
 ·rename_i h1; exact absurd h h1
 ·rename_i h1
  split at h
  ·cases h
  ·rename_i h2
   exact ⟨by simpa using h1, fun x hx hc => by
    rcases Int.lt_or_le x.number e.number with h3 | h3
    ·exact h3
    ·exact absurd ⟨x, hx, hc, h3⟩ h2⟩
theorem lastOk_snoc {es : List Ent} {D : DataW Unit} (h : LastOk es D) {e : Ent} (he : entErr es e = 0) (hm : Maps.IsMap (D.put (.int .i64 e.client) (.lit (.int .i64 e.number)))) : LastOk (es ++ [e]) (D.put (.int .i64 e.client) (.lit (.int .i64 e.number))) := by
 obtain ⟨h1, h2⟩ := entErr_zero he
 have hk := (Maps.int_keyed Tryz.underlying3).key (client_key h1)
 refine ⟨hm, fun c => ?_, fun c hc => ?_⟩
 ·by_cases hce : e.client = c
  ·subst hce
   rw [Maps.has_put_same h.map hk]
   simp
  ·rw [Maps.has_put_other (fun e' => hce (by cases e'; rfl)), h.has c]
   simp [hce]
 ·by_cases hce : e.client = c
  ·subst hce
   refine ⟨e.number, fun z => Maps.atKey_put_same h.map hk _ _, ⟨e, by simp, rfl, rfl⟩, fun x hx hxc => ?_⟩
   rcases List.mem_append.1 hx with hx | hx
   ·exact Int.le_of_lt (h2 x hx hxc)
   ·simp at hx; subst hx; exact Int.le_refl _
  ·have hc' : ∃ x ∈ es, x.client = c := by
    obtain ⟨x, hx, hxc⟩ := hc
    rcases List.mem_append.1 hx with hx | hx
    ·exact ⟨x, hx, hxc⟩
    ·simp at hx; subst hx; exact absurd hxc hce
   obtain ⟨m, m1, ⟨x, hx, hxc, hxm⟩, m3⟩ := h.at_ c hc'
   refine ⟨m, fun z => by rw [Maps.atKey_put_other (fun e' => hce (by cases e'; rfl))]; exact m1 z, ⟨x, by simp [hx], hxc, hxm⟩, fun y hy hyc => ?_⟩
   rcases List.mem_append.1 hy with hy | hy
   ·exact m3 y hy hyc
   ·simp at hy; subst hy; exact absurd hyc hce
theorem fit_entErr {es : List Ent} {D : DataW Unit} (h : LastOk es D) {e : Ent} {r : Int} (hf : Fit D e r) : r = entErr es e := by
 unfold entErr
 rcases hf with ⟨h1, rfl⟩ | ⟨h1, h2, ⟨c, h3, h4⟩, rfl⟩ | ⟨h1, h2, rfl⟩
 ·rw [if_pos h1]
 ·rw [if_neg (by simpa using h1)]
  obtain ⟨m, m1, ⟨x, hx, hxc, hxm⟩, _⟩ := h.at_ _ ((h.has _).1 h2)
  have : c = m := by have := (m1 _).symm.trans h3; simpa using this.symm
  rw [if_pos ⟨x, hx, hxc, by omega⟩]
 ·rw [if_neg (by simpa using h1)]
  rw [if_neg]
  rintro ⟨x, hx, hxc, hxn⟩
  obtain ⟨c, h3, h4⟩ := h2 ((h.has _).2 ⟨x, hx, hxc⟩)
  obtain ⟨m, m1, _, m3⟩ := h.at_ _ ⟨x, hx, hxc⟩
  have : c = m := by have := (m1 _).symm.trans h3; simpa using this.symm
  have := m3 x hx hxc
  omega
theorem logErr1_append : ∀ (es pre t : List Ent), logErr1 pre es = 0 → logErr1 pre (es ++ t) = logErr1 (pre ++ es) t ∧ logPlace pre (es ++ t) = logPlace (pre ++ es) t
 | [], pre, t, _ => by simp
 | x :: es, pre, t, h => by
  simp only [logErr1] at h
  split at h
  ·rename_i h1; exact absurd h h1
  ·rename_i h1
   have := logErr1_append es (pre ++ [x]) t h
   simp only [List.cons_append, logErr1, logPlace, if_neg h1]
   simpa using this
theorem logErr1_snoc {es : List Ent} {e : Ent} (h : logErr1 [] es = 0) (he : entErr es e = 0) : logErr1 [] (es ++ [e]) = 0 := by
 rw [(logErr1_append es [] [e] h).1]
 simp [logErr1, he]
theorem logErr1_at {es t : List Ent} {e : Ent} (h : logErr1 [] es = 0) (he : entErr es e ≠ 0) : logErr1 [] (es ++ e :: t) = entErr es e ∧ logPlace [] (es ++ e :: t) = es.length + 1 := by
 obtain ⟨h1, h2⟩ := logErr1_append es [] (e :: t) h
 rw [h1, h2]
 simp [logErr1, logPlace, he]
theorem logPlace_zero : ∀ (es pre : List Ent), logErr1 pre es = 0 → logPlace pre es = 0
 | [], _, _ => rfl
 | x :: r, pre, h => by
  simp only [logErr1] at h
  split at h
  ·rename_i h1; exact absurd h h1
  ·rename_i h1
   simp only [logPlace, if_neg h1]
   exact logPlace_zero r _ h
theorem yielded_ents (l : List Ent) : (yielded l).map (·.2) = l := by
 refine List.ext_getElem (by simp [yielded]) fun i h1 h2 => by simp [yielded]
theorem yielded_at {l : List Ent} {ini t : List (Int × Ent)} {p : Int} {e : Ent} (h : yielded l = ini ++ (p, e) :: t) : p = ini.length + 1 ∧ l = ini.map (·.2) ++ e :: t.map (·.2) := by
 refine ⟨?_, ?_⟩
 ·have hl : ini.length < (yielded l).length := by rw [h]; simp
  have h1 : (yielded l)[ini.length]'hl = (p, e) := by simp [h]
  rw [yielded_get l _ (by rw [yielded_length] at hl; exact hl)] at h1
  exact (congrArg Prod.fst h1).symm
 ·rw [← yielded_ents l, h]; simp
theorem check_calls {C : Ctx} {w : World} {v : Value} (l : List Ent) (room : Int) (hl : l.length ≤ 1048577) (hv : RD C.Fz w v (encLog l)) (hc : Clean C w) : Calls Tryz.prog 123 #[v, .int .i64 room] w fun e w' =>
  e = .returned (.tuple #[.int .i64 (logErr l room), .int .i64 (logAt l room)]) ∧ Below w.heap.size w w' := by
 rw [← callsIn_wide (n := 3)]
 have hcall : ∀ {n f : Nat} {args : Array Value} {w : World} {R : Ending → World → Prop}, Calls Tryz.prog f args w R → CallsIn Fence.wide n Tryz.prog f args w R := fun h => callsIn_wide.2 h
 have hro : Fence.wide.round = none := rfl
 have hF0 : Fence.wide.fn 123 := trivial
 have hF1 : Fence.wide.fn 148 := trivial
 have hF2 : Fence.wide.fn 149 := trivial
 have hF3 : Fence.wide.fn 177 := trivial
 generalize Fence.wide = F at *
 have hvs : ∃ a c, v = .slice a l.length c := by
  rcases log_cells hv with ⟨rfl, a, c, rfl⟩ | ⟨b, off, cap, rfl, _⟩
  ·exact ⟨_, _, rfl⟩
  ·exact ⟨_, _, rfl⟩
 obtain ⟨sa, sc, rfl⟩ := hvs
 have hmm := @run_makeMap Tryz.prog
 refine callsIn_of_wp_marks Tryz.func123 rfl hF0 ?_ hro
 simp only [Tryz.ntmps123, List.size_toArray, List.length_cons, List.length_nil, Nat.reduceAdd, Nat.reduceSub, Array.replicate_succ, Array.replicate_zero, List.push_toArray, List.append_toArray, List.nil_append, List.cons_append]
 have hl0 : l.length ≤ 1048577 := hl
 gi_wp2_with (gi_at_call 148; have hbA : Below w.heap.size w ((((w.alloc (.cells #[.int .i64 0] 38)).alloc (.cells #[.int .i64 0] 3)).alloc (.map #[] 0)).alloc (.cells #[.map (some (w.heap.size + 1 + 1))] 200)) := ((((Below.refl _ w).alloc (Nat.le_refl _) _).alloc (by simp) _).alloc (by simp; omega) _).alloc (by simp; omega) _; refine (hcall (each_calls l hl0 (C := C) (hc.rd hbA hv) (hc.below hbA))).mono ?_; rintro e w1 ⟨B1, B2, v1, C1, rfl, c1, c2, hv1, hc1, hb1, hB1, hB2, hnew⟩)
 ·have h1 : room < 1 ∨ 256 < room := by first | assumption | omega
  have e1 : logErr l room = 3 := by unfold logErr; rw [if_pos h1]
  have e2 : logAt l room = 0 := by unfold logAt; rw [if_pos h1]
  rw [e1, e2]
  exact ⟨_, by simp [results, Tryz.f123, go_sem], rfl, ((Below.refl _ w).alloc (Nat.le_refl _) _).alloc (by simp) _⟩
 ·have h1 : ¬ (room < 1 ∨ 256 < room) := by omega
  have h2 : room < l.length := by omega
  have e1 : logErr l room = 60 := by unfold logErr; rw [if_neg h1, if_pos h2]
  have e2 : logAt l room = room := by unfold logAt; rw [if_neg h1, if_pos h2]
  rw [e1, e2]
  exact ⟨_, by simp [results, Tryz.f123, go_sem], rfl, ((Below.refl _ w).alloc (Nat.le_refl _) _).alloc (by simp) _⟩
 ·have h1 : ¬ (room < 1 ∨ 256 < room) := by omega
  have h2 : ¬ room < l.length := by omega
  have e3 : logErr l room = logErr1 [] l := by unfold logErr; rw [if_neg h1, if_neg h2]
  have e4 : logAt l room = logPlace [] l := by unfold logAt; rw [if_neg h1, if_neg h2]
  clear h1 h2
  have hsz1 : w.heap.size + 1 + 1 + 1 + 1 ≤ w1.heap.size := by have := hb1.size; simpa using this
  simp only [World.size_alloc] at hB1 hB2
  have up : ∀ {B : Nat} {t : TypeId} {v : Value}, Boxed ((((w.alloc (.cells #[.int .i64 0] 38)).alloc (.cells #[.int .i64 0] 3)).alloc (.map #[] 0)).alloc (.cells #[.map (some (w.heap.size + 1 + 1))] 200)) B t v → Boxed w1 B t v := fun h => (hb1.block _ h.lt).trans h
  have bE : Boxed w1 w.heap.size 38 (.int .i64 0) := up ((((Boxed.new w 38 _).alloc _).alloc _).alloc _)
  have bP : Boxed w1 (w.heap.size + 1) 3 (.int .i64 0) := up (by
   have := Boxed.new (w.alloc (.cells #[.int .i64 0] 38)) 3 (.int .i64 0)
   rw [World.size_alloc] at this
   exact (this.alloc _).alloc _)
  have bV : Boxed w1 (w.heap.size + 1 + 1 + 1) 200 (.map (some (w.heap.size + 1 + 1))) := up (by
   have := Boxed.new (((w.alloc (.cells #[.int .i64 0] 38)).alloc (.cells #[.int .i64 0] 3)).alloc (.map #[] 0)) 200 (.map (some (w.heap.size + 1 + 1)))
   simp only [World.size_alloc] at this
   exact this)
  have hM : w1.ownsMap Tryz.prog 3 anyInt (w.heap.size + 1 + 1) 0 (.map []) := by
   have := World.ownsMap_made ((w.alloc (.cells #[.int .i64 0] 38)).alloc (.cells #[.int .i64 0] 3)) Tryz.prog 3 anyInt
   simp only [World.size_alloc] at this
   exact owns_at (this.alloc _) hb1
  have hMF : ¬ C1.Fz (w.heap.size + 1 + 1) := fun h => by
   rcases hnew _ h with h | h
   ·have := hc.heap.lt _ h; omega
   ·simp only [World.size_alloc] at h; omega
  have hEF : ∀ k, w.heap.size ≤ k → k ≤ w.heap.size + 1 + 1 + 1 → ¬ (C1.Fz k ∨ k = B1 ∨ k = B2) := fun k hk1 hk2 h => by
   rcases h with h | h | h
   ·rcases hnew _ h with h | h
    ·have := hc.heap.lt _ h; omega
    ·simp only [World.size_alloc] at h; omega
   ·omega
   ·omega
  have l1 : B1 < w1.heap.size := by obtain ⟨o, ho, _⟩ := cells_of_cell c1; exact (Array.getElem?_eq_some_iff.1 ho).1
  have l2 : B2 < w1.heap.size := by obtain ⟨o, ho, _⟩ := cells_of_cell c2; exact (Array.getElem?_eq_some_iff.1 ho).1
  have hB0 : Below w.heap.size w w1 := hbA.trans (hb1.mono (by simp; omega))
  have kpSet : ∀ (W : World) (k : Nat) (u : Value), w.heap.size ≤ k → k ≤ w.heap.size + 1 + 1 + 1 → KpE C1.Fz B1 B2 W (W.setCell ⟨k, 0, none⟩ u) := fun W k u hk1 hk2 => ⟨by simp [World.setCell], fun j hj => Below.heap_setCell _ _ _ _ (fun e => hEF k hk1 hk2 (by have e : j = k := e; subst e; exact hj))⟩
  refine wpIn_rangeFunc_ownH hro (by omega) (gf := 177) (lb := #[.pointer (some ⟨B1, 0, none⟩), .pointer (some ⟨B2, 0, none⟩)]) rfl hF3 (enters_of Tryz.func177 (by kernel_rfl) rfl)
   (each1_stops F 2 hF3 hro (by omega) B1 B2 v1 C1 l w1 hl0 c1 c2 hv1 hc1 l1 l2) (fun h k => h.trans k)
   (fun W j o o' hj hjo _ _ => ⟨by simp [World.putObj], fun k hk => World.putObj_heap_other (fun e => by
    subst e
    rcases hk with hk | hk | hk
    ·have := hc1.heap.lt _ hk; omega
    ·omega
    ·omega)⟩) (Below.refl _ _) (fun _ => rfl)
   (fun pre W => ((Boxed W w.heap.size 38 (.int .i64 0) ∧ Boxed W (w.heap.size + 1) 3 (.int .i64 0)) ∧ Boxed W (w.heap.size + 1 + 1 + 1) 200 (.map (some (w.heap.size + 1 + 1)))) ∧
    W.ownsMap Tryz.prog 3 anyInt (w.heap.size + 1 + 1) pre.length (lastD (pre.map (·.2))) ∧ (logErr1 [] (pre.map (·.2)) = 0 ∧ LastOk (pre.map (·.2)) (lastD (pre.map (·.2)))) ∧ Below w.heap.size w W ∧ w1.heap.size ≤ W.heap.size)
   (fun c pre W => (c = .ret ∧ ∃ ini p e, pre = ini ++ [(p, e)] ∧ logErr1 [] (ini.map (·.2)) = 0 ∧ entErr (ini.map (·.2)) e ≠ 0 ∧ Boxed W w.heap.size 38 (.int .i64 (entErr (ini.map (·.2)) e)) ∧ Boxed W (w.heap.size + 1) 3 (.int .i64 p)) ∧ Below w.heap.size w W)
   (fun s A B row hs hg hr => by
    obtain ⟨⟨⟨a, b⟩, c⟩, d, e, f, g⟩ := hs
    exact ⟨⟨⟨a.kept hg (fun e' => by have := (hr _ e'.symm).1; omega), b.kept hg (fun e' => by have := (hr _ e'.symm).1; omega)⟩, c.kept hg (fun e' => by have := (hr _ e'.symm).1; omega)⟩,
     d.kept hg (fun e' => by have := (hr _ e'.symm).1; omega), e, f.grown hg f.size (fun k e' => by have := (hr k e').1; omega), Nat.le_trans g hg.size⟩)
   (fun c s A B row hs hg hr => by
    obtain ⟨⟨a, ini, p, e, h1, h2, h3, h4, h5⟩, f⟩ := hs
    exact ⟨⟨a, ini, p, e, h1, h2, h3, h4.kept hg (fun e' => by have := (hr _ e'.symm).1; omega), h5.kept hg (fun e' => by have := (hr _ e'.symm).1; omega)⟩, f.grown hg f.size (fun k e' => by have := (hr k e').1; omega)⟩)
   ⟨⟨⟨bE, bP⟩, bV⟩, hM, ⟨rfl, lastOk_nil⟩, hB0, Nat.le_refl _⟩
   (fun x a' W => ∃ Bx, w1.heap.size ≤ Bx ∧ W.heap[Bx]? = some (.cells #[.int .i64 x.2.client, .int .i64 x.2.number, .int .i64 x.2.op.kind, .int .i64 x.2.op.slot, .string x.2.op.value] 50 (0, 0)) ∧
    a' = { tmps := #[.slice sa l.length sc, .int .i64 room, undef, undef, .pointer (some ⟨w.heap.size, 0, none⟩), .pointer (some ⟨w.heap.size + 1, 0, none⟩), .pointer (some ⟨w.heap.size + 1 + 1 + 1, 0, none⟩), .int .i64 x.1, .pointer (some ⟨Bx, 0, none⟩), undef,
      .int .i64 room, .bool (decide (room < 1)), .bool (decide (room < 1)), .int .i64 room, .bool (decide (256 < room)), .bool (decide (room < 1) || decide (256 < room)), .slice sa l.length sc, .int .i64 l.length, .int .i64 room, .bool (decide (room < l.length)), undef,
      .map (some (w.heap.size + 1 + 1)), .slice sa l.length sc, .func (.func 177) #[] #[.pointer (some ⟨B1, 0, none⟩), .pointer (some ⟨B2, 0, none⟩)], .int .i64 x.1, entV x.2, undef, undef, undef, undef, undef, undef, undef, undef, undef, undef, undef, undef], defers := [] })
   (fun x a' _ A B row hs hg hr => by
    obtain ⟨Bx, h1, h2, h3⟩ := hs
    exact ⟨Bx, h1, (hg.block _ (Array.getElem?_eq_some_iff.1 h2).1 (fun e' => by obtain ⟨_, o, ho, hc⟩ := hr _ e'.symm; rw [h2] at ho; cases ho; cases hc)).trans h2, h3⟩)
   ?assign ?body ?done ?stop
  case assign =>
   rintro j pre x W K hI hK
   obtain ⟨⟨⟨a, b⟩, c⟩, d, e, f, g⟩ := hI
   gi_wp2
   refine hK _ _ ((KeepsOthers.alloc _ _).from _) ⟨by simp, fun k hk => Below.heap_alloc _ _ _ (by
    rcases hk with hk | hk | hk
    ·have := hc1.heap.lt _ hk; omega
    ·omega
    ·omega)⟩ ⟨⟨⟨a.alloc _, b.alloc _⟩, c.alloc _⟩, d.alloc _, e, f.alloc f.size _, by simp; omega⟩ ⟨W.heap.size, g, World.alloc_heap_new _ _, rfl⟩
  case body =>
   rintro j pre x a' W hj _ ⟨⟨⟨bE2, bP2⟩, bV2⟩, hM2, ⟨hz, hL⟩, hB2', hW⟩ ⟨Bx, hBx, hX, rfl⟩ hlen
   have cV := bV2.cell
   have x0 : W.cell? ⟨Bx, 0, none⟩ = some (.int .i64 x.2.client) := by simp [World.cell?, hX]
   have x1 : W.cell? ⟨Bx, 1, none⟩ = some (.int .i64 x.2.number) := by simp [World.cell?, hX]
   have x2 : W.cell? ⟨Bx, 2, none⟩ = some (.int .i64 x.2.op.kind) := by simp [World.cell?, hX]
   have x3 : W.cell? ⟨Bx, 3, none⟩ = some (.int .i64 x.2.op.slot) := by simp [World.cell?, hX]
   have x4 : W.cell? ⟨Bx, 4, none⟩ = some (.string x.2.op.value) := by simp [World.cell?, hX]
   gi_wp2_with (first
    | (gi_at_mapUpdate; refine wpListIn_mapUpdate_own _ rfl _ _ _ 200 rfl 3 3 (Maps.int_keyed Tryz.underlying3) Tryz.underlying200 _ (w.heap.size + 1 + 1) pre.length _ rfl hM3 (by simp only [maxLen]; omega) _ _ _ rfl rfl (hk0 (by first | assumption | omega | simp_all)) _ [] rfl ?_; intro w3 hown3 hgrow3)
    | (gi_at_call 149; refine (CallsIn.inRound j (hcall (fits_calls W (w.heap.size + 1 + 1) _ _ hM2 x.2))).mono ?_; rintro e w2 ⟨r, rfl, hfit, hb2⟩; have hfe := fit_entErr hL hfit; have hk0 : r = 0 → keyOf Tryz.prog 3 (.int .i64 x.2.client) = some (.int .i64 x.2.client) := fun h => client_key (entErr_zero (hfe.symm.trans h)).1; have bE3 : Boxed w2 w.heap.size 38 (.int .i64 0) := (hb2.block _ bE2.lt).trans bE2; have bP3 : Boxed w2 (w.heap.size + 1) 3 (.int .i64 0) := (hb2.block _ bP2.lt).trans bP2; have bV3 : Boxed w2 (w.heap.size + 1 + 1 + 1) 200 (.map (some (w.heap.size + 1 + 1))) := (hb2.block _ bV2.lt).trans bV2; have hM3 := owns_at hM2 hb2; have hX3 := (hb2.block _ (Array.getElem?_eq_some_iff.1 hX).1).trans hX; have cE3 := bE3.cell; have fE3 := bE3.frozen; have cP3 := bP3.cell; have fP3 := bP3.frozen; have cV3 := bV3.cell; have y0 : w2.cell? ⟨Bx, 0, none⟩ = some (.int .i64 x.2.client) := (by simp [World.cell?, hX3]); have y1 : w2.cell? ⟨Bx, 1, none⟩ = some (.int .i64 x.2.number) := by simp [World.cell?, hX3]))
   ·have hr : r ≠ 0 := by first | assumption | simp_all
    refine ⟨(⟨hb2.size, fun k o _ hk _ => (hb2.block k (Array.getElem?_eq_some_iff.1 hk).1).trans hk⟩ : KeepsFrom _ W w2).trans (((KeepsOthers.setCell _ _ _).from _).trans ((KeepsOthers.setCell _ _ _).from _)),
     ⟨rfl, pre, x.1, x.2, rfl, hz, by rw [← hfe]; exact hr, by rw [← hfe]; exact (Boxed.set _ bE3).other (by omega) _, Boxed.set _ (bP3.other (by omega) _)⟩,
     ((hB2'.trans (hb2.mono hB2'.size)).setCell (p := ⟨w.heap.size, 0, none⟩) (Nat.le_refl _) _).setCell (p := ⟨w.heap.size + 1, 0, none⟩) (by simp) _⟩
   ·have hr : r = 0 := by first | assumption | omega | simp_all
    have he0 : entErr (pre.map (·.2)) x.2 = 0 := hfe.symm.trans hr
    have hMlt := hM3.lt
    have hsz3 := hgrow3.size
    have hW2 := hb2.size
    refine ⟨(⟨hb2.size, fun k o _ hk _ => (hb2.block k (Array.getElem?_eq_some_iff.1 hk).1).trans hk⟩ : KeepsFrom _ W w2).trans (KeepsFrom.of_grownBy hgrow3 (fun j e => by cases e; omega)),
     ⟨Nat.le_trans hW2 hsz3, fun k hk => ?_⟩,
     ⟨⟨bE3.kept hgrow3 (fun e => by injection e with e; omega), bP3.kept hgrow3 (fun e => by injection e with e; omega)⟩, bV3.kept hgrow3 (by simp)⟩, ?_, ⟨?_, ?_⟩, (hB2'.trans (hb2.mono hB2'.size)).grown hgrow3 (Nat.le_trans hB2'.size hW2) (fun k e => by cases e; omega), by omega⟩
    ·have hkl : k < w1.heap.size := by
      rcases hk with hk | hk | hk
      ·exact hc1.heap.lt _ hk
      ·omega
      ·omega
     exact (hgrow3.block k (by omega) (fun e => hEF k (by cases e; omega) (by cases e; omega) hk)).trans (hb2.block k (by omega))
    ·rw [List.map_append, List.map_singleton, lastD_snoc, List.length_append]; exact hown3
    ·rw [List.map_append, List.map_singleton]; exact logErr1_snoc hz he0
    ·rw [List.map_append, List.map_singleton, lastD_snoc]; exact lastOk_snoc hL he0 hown3.isMap
  case done =>
   rintro D ys W hD rfl ⟨⟨⟨bE2, bP2⟩, bV2⟩, hM2, ⟨hz, hL⟩, hB2', hW⟩ hK
   rw [yielded_ents] at hz
   have f5 : logErr l room = 0 := by rw [e3, hz]
   have f6 : logAt l room = 0 := by rw [e4]; exact logPlace_zero l [] hz
   have f7 : (Ending.returned (.tuple #[.int .i64 0, .int .i64 0]) : Ending) = .returned (.tuple #[.int .i64 (logErr l room), .int .i64 (logAt l room)]) := by rw [f5, f6]
   clear e3 e4 f5 f6 hz
   have fE := bE2.frozen
   have fP := bP2.frozen
   have cE := bE2.cell
   have cP := bP2.cell
   gi_wp2
   have hK' := (KeepsOthers.setCell (W.setCell ⟨w.heap.size, 0, none⟩ (.int .i64 0)) ⟨w.heap.size + 1, 0, none⟩ (.int .i64 0)).same D _ ((KeepsOthers.setCell W ⟨w.heap.size, 0, none⟩ (.int .i64 0)).same D _ hK rfl) rfl
   have bE3 := ((Boxed.set (.int .i64 0) bE2).other (B' := w.heap.size + 1) (by omega) (.int .i64 0)).kept (grownBy_putObj' _ D (.deferred none)) (fun e => by cases e; omega)
   have bP3 := (Boxed.set (.int .i64 0) (bP2.other (B' := w.heap.size) (by omega) (.int .i64 0))).kept (grownBy_putObj' _ D (.deferred none)) (fun e => by cases e; omega)
   have cE3 := bE3.cell
   have cP3 := bP3.cell
   refine ⟨by simp, .inl ⟨_, _, rfl, run_takeDeferred hK', ?_⟩⟩
   refine ⟨.tuple #[.int .i64 0, .int .i64 0], ?_, f7, ((hB2'.setCell (p := ⟨w.heap.size, 0, none⟩) (Nat.le_refl _) _).setCell (p := ⟨w.heap.size + 1, 0, none⟩) (by simp) _).trans (belowK_b (w := w) (Nat.le_refl _) _ D _ _ (by omega) hK' rfl rfl)⟩
   simp [results, Tryz.f123, go_sem, cE3, cP3]
  case stop =>
   rintro D c pre W hD ⟨t, ht⟩ ⟨⟨rfl, ini, p, e, rfl, hz, he, bE2, bP2⟩, hB2'⟩ hK
   rw [List.append_assoc, List.singleton_append] at ht
   obtain ⟨rfl, hll⟩ := yielded_at ht.symm
   obtain ⟨f1, f2⟩ := logErr1_at (t := t.map (·.2)) hz he
   have f5 : logErr l room = entErr (ini.map (·.2)) e := by rw [e3, hll]; exact f1
   have f6 : logAt l room = ini.length + 1 := by rw [e4, hll, f2]; simp
   have f7 : (Ending.returned (.tuple #[.int .i64 (entErr (ini.map (·.2)) e), .int .i64 (ini.length + 1)]) : Ending) = .returned (.tuple #[.int .i64 (logErr l room), .int .i64 (logAt l room)]) := by rw [f5, f6]
   clear e3 e4 f5 f6 f1 f2 hll
   have cE := bE2.cell
   have cP := bP2.cell
   gi_wp2
   have bE3 := bE2.kept (grownBy_putObj' _ D (.deferred none)) (fun e => by cases e; omega)
   have bP3 := bP2.kept (grownBy_putObj' _ D (.deferred none)) (fun e => by cases e; omega)
   have cE3 := bE3.cell
   have cP3 := bP3.cell
   refine ⟨by simp, .inl ⟨_, _, rfl, run_takeDeferred hK, ?_⟩⟩
   refine ⟨.tuple #[.int .i64 (entErr (ini.map (·.2)) e), .int .i64 (ini.length + 1)], ?_, f7, hB2'.trans (belowK_b (w := w) (Nat.le_refl _) _ D _ _ (by omega) hK rfl rfl)⟩
   simp [results, Tryz.f123, go_sem, cE3, cP3]
 ·have h1 : room < 1 ∨ 256 < room := by first | assumption | omega
  have e1 : logErr l room = 3 := by unfold logErr; rw [if_pos h1]
  have e2 : logAt l room = 0 := by unfold logAt; rw [if_pos h1]
  rw [e1, e2]
  exact ⟨_, by simp [results, Tryz.f123, go_sem], rfl, ((Below.refl _ w).alloc (Nat.le_refl _) _).alloc (by simp) _⟩
end Go.Ax
