/-
  Ax, text 27: functions of Go's library that hold a slice against nil: slices.Clone.
-/
import Derived.Test.YtfoglingdnhjpaaGreatDoorXAuto
import Derived.WalkKit
import Derived.WalkLawsBesides
import Derived.BigCall
import Derived.Tactics2
namespace Go.Ax
set_option linter.all false
set_option linter.unusedSectionVars false
open Go.RowKit
variable [Gls]
variable {P : Program} {w w' : World} {C : Ctx}
def cloneNv (e sz : Nat) (own : Bool) : List AV → Option (AV × List Blk)
 | [.dat (.sl sz' fl xs)] => if sz' = sz ∧ xs.length ≤ LIM then
   (match own with
   | true => (match xs with
    | [] => some (.nil e sz fl, [])
    | x :: r => some (.own 0 0 (r.length + 1), [.arr e sz fl false (x :: r)]))
   | false => some (.dat (.sl sz fl xs), []))
  else none
 | _ => none
theorem local_below (hH : RH C w (at_ [])) (hD : ∀ i, ¬ C.D i) (hb : Below w.heap.size w w') : Local C C w w' [] [] (at_ []) (List.range ([] : List Blk).length) :=
 ⟨⟨fun _ h => h, fun b h => hb.block b (hH.lt b h), fun _ h => h, fun _ _ => rfl, fun _ _ => rfl⟩, hb.os, hb.tape, hb.output, hb.size, Nat.le_refl _, fun i h => by simp at h, fun k hk => .inl (hb.block k hk), fun _ h => .inl h,
  fun b h => Nat.lt_of_lt_of_le (hH.lt b h) hb.size, fun i hi => by simp at hi, fun i => ⟨fun h => absurd h (hD i), fun h => h.elim id (fun h => absurd h.2 (by simp))⟩,
  fun i b _ h => by simp at h, fun i b k _ h => by simp at h, fun i j b b' k _ _ h => by simp at h⟩
theorem run_binnil (t e : TypeId) (hu : P.underlying t = some (.slice e)) (b : Option Addr) (n c : Nat) : (binOp .eql t (.slice b n c) (.slice none 0 0)).run P w = .ok (.bool b.isNone) w := by
 simp [binOp, run_eqnil_slice hu]
theorem run_append_none (t ty e : TypeId) (i : TypeInfo) (hu : P.underlying t = some (.slice e)) (hi : P.info? e = some i) (b : Option Addr) (ax : Option Addr) (cx : Nat) :
  (Builtin.append_ #[t, t] ty #[.slice b 0 0, .slice ax 0 cx]).run P w = .ok (.slice b 0 0) w := by
 have hf : ∀ c, (Builtin.firstCells i.size 0 (.slice ax 0 c)).run P w = .ok #[] w := fun c => by cases ax <;> simp [Builtin.firstCells, loadCells, loadCellsFrom]
 cases b <;> simp [Builtin.append_, run_underlying hu, sizeOf, typeInfo, hi, Builtin.lenOf, hf, storeCells]
theorem clone_ok (hm : P.follows .mixedOrders = true) {T0 : Nat → Option XFunc} (hT0 : ∀ g xf, T0 g = some xf → FOk P g xf) {f e sz : Nat} {own : Bool}
  (heval : ∀ fl x xs, (x :: xs).length ≤ LIM → runFn T0 1 1 f [.dat (.sl sz fl (x :: xs))] [] = cloneNv e sz own [.dat (.sl sz fl (x :: xs))])
  (hnil : ∀ (w : World) (c : Nat), Calls P f #[.slice none 0 c] w fun e w' => (∃ b, e = .returned (.slice b 0 0)) ∧ Below w.heap.size w w')
  (hemp : ∀ (w : World) (ad : Addr) (c : Nat), Calls P f #[.slice (some ad) 0 c] w fun e w' => (∃ b, e = .returned (.slice b 0 0)) ∧ Below w.heap.size w w')
  (hfn : ∃ fn, P.funcs[f]? = some fn ∧ (fn.name == "runtime.NumGoroutine") = false ∧ fn.body.isNone = false) : NvOk P f (cloneNv e sz own) := by
 refine ⟨hfn, fun args r H' h C w vs hR hH hD hG => ?_⟩
 match args, h with
 | [.dat (.sl sz' fl (x :: xs))], h =>
  have hc : sz' = sz ∧ (x :: xs).length ≤ LIM := by
   simp only [cloneNv] at h
   split at h
   ·assumption
   ·cases h
  obtain ⟨rfl, hc⟩ := hc
  rw [← heval fl x xs hc] at h
  exact (runFn_sound hm hT0 1 1).calls f _ _ _ _ h C w vs hR hH (fun i => ⟨fun hi => absurd hi (hD i), fun hi => by simp at hi⟩) hG
 | [.dat (.sl sz' fl [])], h =>
  have hv : ∃ a cap, vs = [.slice a 0 cap] := by
   obtain ⟨hl, hx⟩ := hR
   match vs, hl with
   | [v], _ =>
    have := hx 0 v _ rfl rfl
    cases this with
    | dat h => cases h with
     | sl0 a cap _ _ _ => exact ⟨a, cap, rfl⟩
     | sl _ _ _ _ _ _ hne => exact absurd rfl hne
  obtain ⟨a, cap, rfl⟩ := hv
  have hcall : Calls P f #[.slice a 0 cap] w fun e w' => (∃ b, e = .returned (.slice b 0 0)) ∧ Below w.heap.size w w' := by
   cases a with
   | none => exact hnil w cap
   | some ad => exact hemp w ad cap
  refine hcall.mono fun e' w' hp => ?_
  obtain ⟨⟨b, rfl⟩, hb⟩ := hp
  simp only [cloneNv] at h
  split at h <;> first | (cases h; done) | skip
  cases own with
  | true =>
   simp only [Option.some.injEq, Prod.mk.injEq] at h
   obtain ⟨rfl, rfl⟩ := h
   exact ⟨_, C, rfl, .nil b _ _ _, local_below hH hD hb⟩
  | false =>
   simp only [Option.some.injEq, Prod.mk.injEq] at h
   obtain ⟨rfl, rfl⟩ := h
   exact ⟨_, C, rfl, .dat (.sl0 b 0 _ _ (fun _ => rfl)), local_below hH hD hb⟩
end Go.Ax
