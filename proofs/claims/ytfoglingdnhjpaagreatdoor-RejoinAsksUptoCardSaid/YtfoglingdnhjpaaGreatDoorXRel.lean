/-
  Ax, text 3: how abstract values, data and blocks stand to the model's values and memory; what a step may turn; that readings last.
-/
import Derived.Test.YtfoglingdnhjpaaGreatDoorXDefs
import Derived.Below
import Derived.Laws.OwnMore
import Derived.Laws.Rows
import Derived.Laws.Cells
import Derived.Maps.AppendAt
import Derived.Maps.Own
namespace Go.Ax
set_option linter.all false
open Go.RowKit
inductive Loc where
 | none
 | box (b : Nat)
 | arr (g cap : Nat)
structure Ctx where
 ρ : Nat → Loc
 sz : Nat → Nat
 D : Nat → Prop
 Fz : Nat → Prop
def flatten (xs : List Dat) : List Dat := xs.flatMap Dat.cells
inductive RD (Fz : Nat → Prop) (w : World) : Value → Dat → Prop
 | bool (b : Bool) : RD Fz w (.bool b) (.bool b)
 | int (k : IntKind) (n : Int) : RD Fz w (.int k n) (.int k n)
 | str (s : ByteArray) : RD Fz w (.string s) (.str s)
 | nilp : RD Fz w (.pointer none) .nilp
 | nilf : RD Fz w .nilFunc .nilf
 | nili : RD Fz w .nilIface .nili
 | nilm : RD Fz w (.map none) .nilm
 | sl0 (a : Option Addr) (cap sz : Nat) (fl : Bool) (hn : a = none → cap = 0) : RD Fz w (.slice a 0 cap) (.sl sz fl [])
 | sl (ad : Addr) (cap sz : Nat) (fl : Bool) (xs : List Dat) (vs : Nat → Value) (hne : xs ≠ []) (hF : Fz ad.block) (hcap : xs.length ≤ cap)
   (hs : ∀ x ∈ xs, x.cells.length = sz) (hfl : fl = true → ∀ x ∈ xs, x.flat = true)
   (hv : ∀ (k : Nat) (d : Dat), (flatten xs)[k]? = some d → w.cell? (ad.add k) = some (vs k) ∧ (vs k).oneCell' = true)
   (hd : ∀ (k : Nat) (d : Dat), (flatten xs)[k]? = some d → RD Fz w (vs k) d) : RD Fz w (.slice (some ad) xs.length cap) (.sl sz fl xs)
 | agg (vs : Array Value) (ds : List Dat) (hn : vs.size = ds.length) (h : ∀ (j : Nat) (d : Dat) (v : Value), ds[j]? = some d → vs[j]? = some v → RD Fz w v d) : RD Fz w (.agg vs) (.agg ds)
inductive RV (C : Ctx) (w : World) : Value → AV → Prop
 | dat {v : Value} {d : Dat} (h : RD C.Fz w v d) : RV C w v (.dat d)
 | ptr (id off b : Nat) (hD : C.D id) (h : C.ρ id = .box b) : RV C w (.pointer (some ⟨b, off, none⟩)) (.ptr id off)
 | eptr (id i off g cap : Nat) (hD : C.D id) (h : C.ρ id = .arr g cap) : RV C w (.pointer (some ⟨g, i * C.sz id + off, none⟩)) (.eptr id i off)
 | mref (id b : Nat) (hD : C.D id) (h : C.ρ id = .box b) : RV C w (.map (some b)) (.mref id)
 | dptr (ad : Addr) (cs : List Dat) (vs : Nat → Value) (hF : C.Fz ad.block) (hv : ∀ (k : Nat) (d : Dat), cs[k]? = some d → w.cell? (ad.add k) = some (vs k) ∧ (vs k).oneCell' = true)
   (hd : ∀ (k : Nat) (d : Dat), cs[k]? = some d → RD C.Fz w (vs k) d) : RV C w (.pointer (some ad)) (.dptr cs)
 | own (id off len g cap : Nat) (hD : C.D id) (h : C.ρ id = .arr g cap) (hl : off + len ≤ cap) : RV C w (.slice (some ⟨g, off * C.sz id, none⟩) len (cap - off)) (.own id off len)
 | own0 (base : Option Addr) (id : Nat) (hD : C.D id) (h : C.ρ id = .none) : RV C w (.slice base 0 0) (.own id 0 0)
 | nil (base : Option Addr) (e sz : Nat) (fl : Bool) : RV C w (.slice base 0 0) (.nil e sz fl)
 | agg (vs : Array Value) (cs : List AV) (hn : vs.size = cs.length) (h : ∀ (j : Nat) (c : AV) (v : Value), cs[j]? = some c → vs[j]? = some v → RV C w v c) : RV C w (.agg vs) (.agg cs)
 | tup (vs : Array Value) (cs : List AV) (hn : vs.size = cs.length) (h : ∀ (j : Nat) (c : AV) (v : Value), cs[j]? = some c → vs[j]? = some v → RV C w v c) : RV C w (.tuple vs) (.tup cs)
 | ifc (t : TypeId) (v : Value) (x : AV) (h : RV C w v x) : RV C w (.iface t v) (.ifc t x)
 | fn (f : Fn) (as cs : Array Value) (xs ys : List AV) (hn : as.size = xs.length) (hm : cs.size = ys.length) (h : ∀ (j : Nat) (c : AV) (v : Value), xs[j]? = some c → as[j]? = some v → RV C w v c)
   (h' : ∀ (j : Nat) (c : AV) (v : Value), ys[j]? = some c → cs[j]? = some v → RV C w v c) : RV C w (.func f as cs) (.fn f xs ys)
 | top (v : Value) : RV C w v .top
structure Keeps (C C' : Ctx) (w w' : World) : Prop where
 fz : ∀ b, C.Fz b → C'.Fz b
 blk : ∀ b, C.Fz b → w'.heap[b]? = w.heap[b]?
 dom : ∀ i, C.D i → C'.D i
 rho : ∀ i, C.D i → C'.ρ i = C.ρ i
 siz : ∀ i, C.D i → C'.sz i = C.sz i
theorem Keeps.refl (C : Ctx) (w : World) : Keeps C C w w := ⟨fun _ h => h, fun _ _ => rfl, fun _ h => h, fun _ _ => rfl, fun _ _ => rfl⟩
theorem Keeps.trans {C C1 C2 : Ctx} {w w1 w2 : World} (h : Keeps C C1 w w1) (k : Keeps C1 C2 w1 w2) : Keeps C C2 w w2 :=
 ⟨fun b hb => k.fz b (h.fz b hb), fun b hb => (k.blk b (h.fz b hb)).trans (h.blk b hb), fun i hi => k.dom i (h.dom i hi), fun i hi => (k.rho i (h.dom i hi)).trans (h.rho i hi),
  fun i hi => (k.siz i (h.dom i hi)).trans (h.siz i hi)⟩
theorem add_block (a : Addr) (n : Nat) : (a.add n).block = a.block := by unfold Addr.add; split <;> rfl
theorem RD.keeps {F F' : Nat → Prop} {w w' : World} {v : Value} {d : Dat} (hF : ∀ b, F b → F' b) (hw : ∀ b, F b → w'.heap[b]? = w.heap[b]?) (h : RD F w v d) : RD F' w' v d := by
 induction h with
 | bool b => exact .bool b
 | int k n => exact .int k n
 | str s => exact .str s
 | nilp => exact .nilp
 | nilf => exact .nilf
 | nili => exact .nili
 | nilm => exact .nilm
 | sl0 a cap sz fl hn => exact .sl0 a cap sz fl hn
 | sl ad cap sz fl xs vs hne hFb hcap hs hfl hv hd ih =>
  refine .sl ad cap sz fl xs vs hne (hF _ hFb) hcap hs hfl (fun k d hk => ⟨?_, (hv k d hk).2⟩) ih
  rw [World.cell?_of_block (w := w) (by rw [add_block]; exact hw _ hFb)]
  exact (hv k d hk).1
 | agg vs ds hn h ih => exact .agg vs ds hn ih
theorem RV.keeps {C C' : Ctx} {w w' : World} {v : Value} {av : AV} (K : Keeps C C' w w') (h : RV C w v av) : RV C' w' v av := by
 induction h with
 | dat h => exact .dat (h.keeps K.fz K.blk)
 | ptr id off b hD h => exact .ptr id off b (K.dom _ hD) ((K.rho _ hD).trans h)
 | eptr id i off g cap hD h => rw [← K.siz _ hD]; exact .eptr id i off g cap (K.dom _ hD) ((K.rho _ hD).trans h)
 | mref id b hD h => exact .mref id b (K.dom _ hD) ((K.rho _ hD).trans h)
 | dptr ad cs vs hF hv hd =>
  refine .dptr ad cs vs (K.fz _ hF) (fun k d hk => ⟨?_, (hv k d hk).2⟩) (fun k d hk => (hd k d hk).keeps K.fz K.blk)
  rw [World.cell?_of_block (w := w) (by rw [add_block]; exact K.blk _ hF)]
  exact (hv k d hk).1
 | own id off len g cap hD h hl => rw [← K.siz _ hD]; exact .own id off len g cap (K.dom _ hD) ((K.rho _ hD).trans h) hl
 | own0 b id hD h => exact .own0 b id (K.dom _ hD) ((K.rho _ hD).trans h)
 | nil b e sz fl => exact .nil b e sz fl
 | agg vs cs hn h ih => exact .agg vs cs hn ih
 | tup vs cs hn h ih => exact .tup vs cs hn ih
 | ifc t v x h ih => exact .ifc t v x ih
 | fn f as cs xs ys hn hm h h' ih ih' => exact .fn f as cs xs ys hn hm ih ih'
 | top v => exact .top v
def Writes : Blk → Loc → Nat → Prop
 | .box _, .box b, k => k = b
 | .mp _, .box b, k => k = b
 | .arr _ _ _ fz _, .arr g _, k => fz = false ∧ k = g
 | _, _, _ => False
def Lies : Blk → Loc → Nat → Prop
 | .box _, .box b, k => k = b
 | .mp _, .box b, k => k = b
 | .arr _ _ _ _ _, .arr g _, k => k = g
 | _, _, _ => False
inductive RB (C : Ctx) (w : World) (id : Nat) : Blk → Prop
 | box (cs : List AV) (b : Nat) (c : Array Value) (t : TypeId) (hρ : C.ρ id = .box b) (hb : w.heap[b]? = some (.cells c t (0, 0))) (hn : c.size = cs.length) (hF : ¬ C.Fz b)
   (h : ∀ (j : Nat) (v : Value) (av : AV), c[j]? = some v → cs[j]? = some av → RV C w v av) (h1 : ∀ (j : Nat) (v : Value), c[j]? = some v → v.oneCell' = true) : RB C w id (.box cs)
 | arr0 (e sz : Nat) (fl fz : Bool) (hρ : C.ρ id = .none) (hz : C.sz id = sz) (hz0 : 0 < sz) : RB C w id (.arr e sz fl fz [])
 | arr (e sz : Nat) (fl fz : Bool) (xs : List Dat) (g cap : Nat) (c : Array Value) (hρ : C.ρ id = .arr g cap) (hz : C.sz id = sz) (hz0 : 0 < sz) (hb : w.heap[g]? = some (.cells c e (0, 0)))
   (hc : c.size = cap * sz) (hl : xs.length ≤ cap) (hcap : cap ≤ maxLen) (hF : C.Fz g ↔ fz = true) (hs : ∀ x ∈ xs, x.cells.length = sz) (hfl : fl = true → ∀ x ∈ xs, x.flat = true)
   (h : ∀ (k : Nat) (d : Dat), (flatten xs)[k]? = some d → ∃ v : Value, c[k]? = some v ∧ RD C.Fz w v d ∧ v.oneCell' = true) : RB C w id (.arr e sz fl fz xs)
 | mp (l : List (Int × Dat)) (b : Nat) (es : Array MapEntry) (ck : Nat) (hρ : C.ρ id = .box b) (hb : w.heap[b]? = some (.map es ck)) (hF : ¬ C.Fz b) (hst : MapKept.Stamped es ck) (hsz : es.size = mcount l) (hl : l.length ≤ LIM + 1)
   (hk : ∀ x ∈ es.toList, ∃ n, x.key = .int .i64 n ∧ keyOk n = true ∧ ∃ d, mlook l n = some d ∧ RD C.Fz w x.val d)
   (hs : ∀ n d, mlook l n = some d → ∃ x ∈ es.toList, x.key = .int .i64 n) : RB C w id (.mp l)
 | dead : RB C w id .dead
structure RH (C : Ctx) (w : World) (Hp : Nat → Option Blk) : Prop where
 dom : ∀ id b, Hp id = some b → C.D id
 blk : ∀ id b, Hp id = some b → RB C w id b
 inj : ∀ i j b b' k, Hp i = some b → Hp j = some b' → Lies b (C.ρ i) k → Lies b' (C.ρ j) k → i = j
 lt : ∀ b, C.Fz b → b < w.heap.size
def at_ (H : List Blk) : Nat → Option Blk := fun i => H[i]?
end Go.Ax
