/-
  What the arguments of this seat's laws are, and what the bound on their bulk gives.
-/
import Derived.Test.YtfoglingdnhjpaaGreatDoorED
import Derived.Test.YtfoglingdnhjpaaGreatDoorRows
import Derived.WalkKit
import Derived.JoinedCond
import Derived.Test.YtfoglingdnhjpaaGreatDoorME
import Derived.Test.YtfoglingdnhjpaaGreatDoorXG
import Derived.Test.YtfoglingdnhjpaaGreatDoorXRow
import Derived.OpenShut
import Derived.LaidMore
import Derived.Lay
import Derived.Deep.DeepHandedRow
namespace Go.Proofs.YtfoglingdnhjpaaGreatDoor
set_option linter.all false
open Go.Ax Go.ChangeShapes Go.WideShapes Go.ChangeAt Go.RowKit
set_option maxRecDepth 100000
theorem own : ownKnob Tryz.prog.godebug = none := by kernel_rfl
theorem laidOut : laidOutB Tryz.prog = true := by kernel_rfl
theorem bulk_part {H : Type} {d : DataW H} {l : List (DataW H)} (h : d ∈ l) : Rows.uptoBulk d ≤ Rows.uptoBulkAll l := by
 induction l with
 | nil => cases h
 | cons x r ih =>
  simp only [Rows.uptoBulkAll]
  cases List.mem_cons.1 h with
  | inl e => subst e; omega
  | inr e => have := ih e; omega
theorem bulk_one {H : Type} (d : DataW H) : 1 ≤ Rows.uptoBulk d := by
 cases d with
 | lit l => cases l <;> simp [Rows.uptoBulk]
 | nil => simp [Rows.uptoBulk]
 | ptr d => simp [Rows.uptoBulk]
 | slice elems spare => simp [Rows.uptoBulk]
 | agg parts => simp [Rows.uptoBulk]
 | iface t d => simp [Rows.uptoBulk]
 | map entries => simp [Rows.uptoBulk]
 | held h => simp [Rows.uptoBulk]
theorem bulk_length {H : Type} (l : List (DataW H)) : l.length ≤ Rows.uptoBulkAll l := by
 induction l with
 | nil => simp
 | cons x r ih => have := bulk_one x; simp only [Rows.uptoBulkAll, List.length_cons]; omega
theorem bounds {H : Type} : Bounds (H := H) (fun d => Rows.uptoBulk d ≤ 1048576) 1048576 := by
 refine ⟨fun es sp _ h => ⟨?_, fun e he => ?_⟩, fun ps h p hp => ?_, fun b _ h => ?_⟩
 ·have := bulk_length es
  simp only [Rows.uptoBulk] at h; omega
 ·have := bulk_part he
  simp only [Rows.uptoBulk] at h; omega
 ·have := bulk_part hp
  simp only [Rows.uptoBulk] at h; omega
 ·simp only [Rows.uptoBulk] at h; omega
theorem small {H : Type} {l : List (DataW H)} (hk : Rows.uptoSmall H l = true) : ∀ d ∈ l, Rows.uptoBulk d ≤ 1048576 := by
 intro d hd
 have h1 : Rows.uptoBulkAll l ≤ 1048576 := of_decide_eq_true hk
 have := bulk_part hd
 omega
theorem list_of {α : Type} {enc : α → Dat} {P : α → Prop} {l : List Dat} (h : ∀ x ∈ l, ∃ d, enc d = x ∧ P d) : ∃ m : List α, l = m.map enc ∧ ∀ d ∈ m, P d := by
 induction l with
 | nil => exact ⟨[], rfl, fun x hx => by cases hx⟩
 | cons x l ih =>
  obtain ⟨d, hd, hn⟩ := h x (by simp)
  obtain ⟨m, hm, hmn⟩ := ih (fun y hy => h y (by simp [hy]))
  refine ⟨d :: m, by rw [hm, ← hd]; rfl, fun y hy => ?_⟩
  rcases List.mem_cons.1 hy with e | e
  ·rw [e]; exact hn
  ·exact hmn y e
theorem cells_int {B f t : Nat} {k : IntKind} {ds : List Dat} (hu : Tryz.prog.underlying t = some (.int k)) (h : Cells Tryz.prog B (f + 1) t ds) : ∃ n : Int, ds = [.int k n] := by
 simp only [Cells, hu] at h
 obtain ⟨n, rfl, _⟩ := h
 exact ⟨n, rfl⟩
theorem cells_cfg {B f : Nat} {ds : List Dat} (h : Cells Tryz.prog B (f + 2) 23 ds) : ∃ c : Cfg, encCfg c = .agg ds := by
 simp only [Cells, Tryz.underlying23, Tryz.underlying3, Tryz.underlying4, List.map_cons, List.map_nil, Parts] at h
 obtain ⟨_, _, rfl, ⟨a, rfl, _⟩, _, _, rfl, ⟨b, rfl, _⟩, _, _, rfl, ⟨c, rfl, _⟩, _, _, rfl, ⟨d, rfl⟩, rfl⟩ := h
 exact ⟨⟨a, b, c, d⟩, rfl⟩
theorem cells_op {B f : Nat} {ds : List Dat} (h : Cells Tryz.prog B (f + 2) 48 ds) : ∃ o : LOp, ds = [di o.kind, di o.slot, .str o.value] := by
 simp only [Cells, Tryz.underlying48, Tryz.underlying3, Tryz.underlying46, Tryz.underlying9, List.map_cons, List.map_nil, Parts] at h
 obtain ⟨_, _, rfl, ⟨a, rfl, _⟩, _, _, rfl, ⟨b, rfl, _⟩, _, _, rfl, ⟨c, rfl, _⟩, rfl⟩ := h
 exact ⟨⟨a, b, c⟩, rfl⟩
theorem cells_ent {B f : Nat} {ds : List Dat} (h : Cells Tryz.prog B (f + 3) 50 ds) : ∃ e : Ent, encE e = .agg ds := by
 rw [Cells] at h
 simp only [Tryz.underlying50, List.map_cons, List.map_nil, Parts] at h
 obtain ⟨_, _, rfl, h1, _, _, rfl, h2, _, _, rfl, h3, rfl⟩ := h
 obtain ⟨a, rfl⟩ := cells_int Tryz.underlying3 h1
 obtain ⟨b, rfl⟩ := cells_int Tryz.underlying3 h2
 obtain ⟨o, rfl⟩ := cells_op h3
 exact ⟨⟨a, b, o⟩, rfl⟩
theorem cells_draw {B f : Nat} {ds : List Dat} (h : Cells Tryz.prog B (f + 2) 26 ds) : ∃ x : Draw, encD x = .agg ds := by
 simp only [Cells, Tryz.underlying26, Tryz.underlying24, List.map_cons, List.map_nil, Parts] at h
 obtain ⟨_, _, rfl, ⟨a, rfl, _⟩, _, _, rfl, ⟨b, rfl, _⟩, rfl⟩ := h
 exact ⟨⟨a, b⟩, rfl⟩
theorem cells_draw2 {B f : Nat} {ds : List Dat} (h : Cells Tryz.prog B (f + 2) 26 ds) : ∃ x : Draw, ds = [du x.hi, du x.lo] := by
 obtain ⟨x, hx⟩ := cells_draw h
 injection hx with hx
 exact ⟨x, hx.symm⟩
theorem cellsOf_Entry : Tryz.prog.cellsOf 50 = 5 := by kernel_rfl
theorem flat_Entry : flatT Tryz.prog 16 50 = true := by kernel_rfl
theorem elem_Entry (ds : List Dat) : elemD Tryz.prog 50 ds = .agg ds := by simp only [elemD, Tryz.underlying50]
theorem cells_log {B f : Nat} {ds : List Dat} (h : Cells Tryz.prog B (f + 4) 28 ds) : ∃ l : List Ent, ds = [encLog l] ∧ l.length ≤ B := by
 rw [Cells] at h
 simp only [Tryz.underlying28, cellsOf_Entry, flat_Entry] at h
 obtain ⟨xs, rfl, hl, hx⟩ := h
 obtain ⟨m, rfl, hP⟩ := list_of (enc := encE) (P := fun x => True) (l := xs) (fun x hxm => by
  obtain ⟨cs, hc, rfl⟩ := hx x hxm
  obtain ⟨d, hd⟩ := cells_ent (f := f) hc
  exact ⟨d, by rw [elem_Entry]; exact hd, trivial⟩)
 exact ⟨m, rfl, by simpa using hl⟩
theorem cellsOf_Draw : Tryz.prog.cellsOf 26 = 2 := by kernel_rfl
theorem flat_Draw : flatT Tryz.prog 16 26 = true := by kernel_rfl
theorem elem_Draw (ds : List Dat) : elemD Tryz.prog 26 ds = .agg ds := by simp only [elemD, Tryz.underlying26]
theorem cells_vec {B f : Nat} {ds : List Dat} (h : Cells Tryz.prog B (f + 3) 30 ds) : ∃ l : List Draw, ds = [encV l] ∧ l.length ≤ B := by
 rw [Cells] at h
 simp only [Tryz.underlying30, cellsOf_Draw, flat_Draw] at h
 obtain ⟨xs, rfl, hl, hx⟩ := h
 obtain ⟨m, rfl, hP⟩ := list_of (enc := encD) (P := fun x => True) (l := xs) (fun x hxm => by
  obtain ⟨cs, hc, rfl⟩ := hx x hxm
  obtain ⟨d, hd⟩ := cells_draw (f := f) hc
  exact ⟨d, by rw [elem_Draw]; exact hd, trivial⟩)
 exact ⟨m, rfl, by simpa using hl⟩
theorem cells_ack {B f : Nat} {ds : List Dat} (h : Cells Tryz.prog B (f + 3) 123 ds) : ∃ x : Ack, encAck x = .agg ds := by
 rw [Cells] at h
 simp only [Tryz.underlying123, List.map_cons, List.map_nil, Parts] at h
 obtain ⟨_, _, rfl, h1, _, _, rfl, h2, _, _, rfl, h3, rfl⟩ := h
 obtain ⟨a, rfl⟩ := cells_int Tryz.underlying3 h1
 obtain ⟨x, rfl⟩ := cells_draw2 h2
 obtain ⟨b, rfl⟩ := cells_int Tryz.underlying3 h3
 exact ⟨⟨a, x, b⟩, rfl⟩
theorem cells_mark {B f : Nat} {ds : List Dat} (h : Cells Tryz.prog B (f + 3) 125 ds) : ∃ x : Ax.Mark, encMark x = .agg ds := by
 rw [Cells] at h
 simp only [Tryz.underlying125, List.map_cons, List.map_nil, Parts] at h
 obtain ⟨_, _, rfl, h1, _, _, rfl, h2, rfl⟩ := h
 obtain ⟨a, rfl⟩ := cells_int Tryz.underlying3 h1
 obtain ⟨x, rfl⟩ := cells_draw2 h2
 exact ⟨⟨a, x⟩, rfl⟩
theorem cells_bal {B f : Nat} {ds : List Dat} (h : Cells Tryz.prog B (f + 5) 98 ds) : ∃ x : Ballot, encBal x = .agg ds ∧ x.log.length ≤ B := by
 rw [Cells] at h
 simp only [Tryz.underlying98, List.map_cons, List.map_nil, Parts] at h
 obtain ⟨_, _, rfl, h1, _, _, rfl, h2, _, _, rfl, h3, _, _, rfl, h4, _, _, rfl, h5, rfl⟩ := h
 obtain ⟨a, rfl⟩ := cells_int Tryz.underlying3 h1
 obtain ⟨x, rfl⟩ := cells_draw2 h2
 obtain ⟨b, rfl⟩ := cells_int Tryz.underlying3 h3
 obtain ⟨c, rfl⟩ := cells_int Tryz.underlying3 h4
 obtain ⟨l, rfl, hl⟩ := cells_log h5
 exact ⟨⟨a, x, b, c, l⟩, rfl, hl⟩
theorem cells_ans {B f : Nat} {ds : List Dat} (h : Cells Tryz.prog B (f + 5) 100 ds) : ∃ x : Answer, encAns x = .agg ds ∧ x.log.length ≤ B := by
 rw [Cells] at h
 simp only [Tryz.underlying100, List.map_cons, List.map_nil, Parts] at h
 obtain ⟨_, _, rfl, h1, _, _, rfl, h2, _, _, rfl, h3, _, _, rfl, h4, _, _, rfl, h5, rfl⟩ := h
 obtain ⟨a, rfl⟩ := cells_int Tryz.underlying3 h1
 obtain ⟨x, rfl⟩ := cells_draw2 h2
 obtain ⟨b, rfl⟩ := cells_int Tryz.underlying3 h3
 obtain ⟨c, rfl⟩ := cells_int Tryz.underlying3 h4
 obtain ⟨l, rfl, hl⟩ := cells_log h5
 exact ⟨⟨a, x, b, c, l⟩, rfl, hl⟩
theorem cellsOf_Ack : Tryz.prog.cellsOf 123 = 4 := by kernel_rfl
theorem flat_Ack : flatT Tryz.prog 16 123 = true := by kernel_rfl
theorem elem_Ack (ds : List Dat) : elemD Tryz.prog 123 ds = .agg ds := by simp only [elemD, Tryz.underlying123]
theorem cells_acks {B f : Nat} {ds : List Dat} (h : Cells Tryz.prog B (f + 4) 31 ds) : ∃ l : List Ack, ds = [encAcks l] ∧ l.length ≤ B := by
 rw [Cells] at h
 simp only [Tryz.underlying31, cellsOf_Ack, flat_Ack] at h
 obtain ⟨xs, rfl, hl, hx⟩ := h
 obtain ⟨m, rfl, hP⟩ := list_of (enc := encAck) (P := fun x => True) (l := xs) (fun x hxm => by
  obtain ⟨cs, hc, rfl⟩ := hx x hxm
  obtain ⟨d, hd⟩ := cells_ack (f := f) hc
  exact ⟨d, by rw [elem_Ack]; exact hd, trivial⟩)
 exact ⟨m, rfl, by simpa using hl⟩
theorem cellsOf_Mark : Tryz.prog.cellsOf 125 = 3 := by kernel_rfl
theorem flat_Mark : flatT Tryz.prog 16 125 = true := by kernel_rfl
theorem elem_Mark (ds : List Dat) : elemD Tryz.prog 125 ds = .agg ds := by simp only [elemD, Tryz.underlying125]
theorem cells_marks {B f : Nat} {ds : List Dat} (h : Cells Tryz.prog B (f + 4) 32 ds) : ∃ l : List Ax.Mark, ds = [encMarks l] ∧ l.length ≤ B := by
 rw [Cells] at h
 simp only [Tryz.underlying32, cellsOf_Mark, flat_Mark] at h
 obtain ⟨xs, rfl, hl, hx⟩ := h
 obtain ⟨m, rfl, hP⟩ := list_of (enc := encMark) (P := fun x => True) (l := xs) (fun x hxm => by
  obtain ⟨cs, hc, rfl⟩ := hx x hxm
  obtain ⟨d, hd⟩ := cells_mark (f := f) hc
  exact ⟨d, by rw [elem_Mark]; exact hd, trivial⟩)
 exact ⟨m, rfl, by simpa using hl⟩
theorem cellsOf_Ballot : Tryz.prog.cellsOf 98 = 6 := by kernel_rfl
theorem flat_Ballot : flatT Tryz.prog 16 98 = false := by kernel_rfl
theorem elem_Ballot (ds : List Dat) : elemD Tryz.prog 98 ds = .agg ds := by simp only [elemD, Tryz.underlying98]
theorem cells_bals {B f : Nat} {ds : List Dat} (h : Cells Tryz.prog B (f + 6) 33 ds) : ∃ l : List Ballot, ds = [encBals l] ∧ l.length ≤ B ∧ ∀ x ∈ l, x.log.length ≤ B := by
 rw [Cells] at h
 simp only [Tryz.underlying33, cellsOf_Ballot, flat_Ballot] at h
 obtain ⟨xs, rfl, hl, hx⟩ := h
 obtain ⟨m, rfl, hP⟩ := list_of (enc := encBal) (P := fun x => x.log.length ≤ B) (l := xs) (fun x hxm => by
  obtain ⟨cs, hc, rfl⟩ := hx x hxm
  obtain ⟨d, hd, hq⟩ := cells_bal (f := f) hc
  exact ⟨d, by rw [elem_Ballot]; exact hd, hq⟩)
 exact ⟨m, rfl, by simpa using hl, hP⟩
theorem cellsOf_Answer : Tryz.prog.cellsOf 100 = 6 := by kernel_rfl
theorem flat_Answer : flatT Tryz.prog 16 100 = false := by kernel_rfl
theorem elem_Answer (ds : List Dat) : elemD Tryz.prog 100 ds = .agg ds := by simp only [elemD, Tryz.underlying100]
theorem cells_anss {B f : Nat} {ds : List Dat} (h : Cells Tryz.prog B (f + 6) 34 ds) : ∃ l : List Answer, ds = [encAnss l] ∧ l.length ≤ B ∧ ∀ x ∈ l, x.log.length ≤ B := by
 rw [Cells] at h
 simp only [Tryz.underlying34, cellsOf_Answer, flat_Answer] at h
 obtain ⟨xs, rfl, hl, hx⟩ := h
 obtain ⟨m, rfl, hP⟩ := list_of (enc := encAns) (P := fun x => x.log.length ≤ B) (l := xs) (fun x hxm => by
  obtain ⟨cs, hc, rfl⟩ := hx x hxm
  obtain ⟨d, hd, hq⟩ := cells_ans (f := f) hc
  exact ⟨d, by rw [elem_Answer]; exact hd, hq⟩)
 exact ⟨m, rfl, by simpa using hl, hP⟩
theorem elem_Config (ds : List Dat) : elemD Tryz.prog 23 ds = .agg ds := by simp only [elemD, Tryz.underlying23]
theorem elem_State (ds : List Dat) : elemD Tryz.prog 36 ds = .agg ds := by simp only [elemD, Tryz.underlying36]
end Go.Proofs.YtfoglingdnhjpaaGreatDoor
namespace Go.Proofs.YtfoglingdnhjpaaGreatDoor
set_option linter.all false
open Go.Ax Go.ChangeShapes Go.WideShapes Go.ChangeAt Go.RowKit
set_option maxRecDepth 100000
theorem cells_res {B f : Nat} {ds : List Dat} (h : Cells Tryz.prog B (f + 2) 52 ds) : ∃ o : Res, ds = [di o.code, di o.slot, .str o.value] := by
 simp only [Cells, Tryz.underlying52, Tryz.underlying3, Tryz.underlying9, List.map_cons, List.map_nil, Parts] at h
 obtain ⟨_, _, rfl, ⟨a, rfl, _⟩, _, _, rfl, ⟨b, rfl, _⟩, _, _, rfl, ⟨c, rfl, _⟩, rfl⟩ := h
 exact ⟨⟨a, b, c⟩, rfl⟩
theorem cells_msg {B f : Nat} (hB : B ≤ 1048576) {ds : List Dat} (h : Cells Tryz.prog B (f + 7) 54 ds) : ∃ m : Msg, encM m = .agg ds ∧ SmallM m := by
 rw [Cells] at h
 simp only [Tryz.underlying54, List.map_cons, List.map_nil, Parts] at h
 obtain ⟨_, _, rfl, h1, _, _, rfl, h2, _, _, rfl, h3, _, _, rfl, h4, _, _, rfl, h5, _, _, rfl, h6, _, _, rfl, h7, _, _, rfl, h8, _, _, rfl, h9, _, _, rfl, h10, _, _, rfl, h11, rfl⟩ := h
 obtain ⟨a, rfl⟩ := cells_int Tryz.underlying46 h1
 obtain ⟨b, rfl⟩ := cells_int Tryz.underlying3 h2
 obtain ⟨c, rfl⟩ := cells_int Tryz.underlying3 h3
 obtain ⟨e, he⟩ := cells_ent h4
 obtain ⟨r, rfl⟩ := cells_res h5
 obtain ⟨p, rfl⟩ := cells_int Tryz.underlying3 h6
 obtain ⟨q, rfl⟩ := cells_int Tryz.underlying3 h7
 obtain ⟨l, rfl⟩ := cells_int Tryz.underlying3 h8
 obtain ⟨x, rfl⟩ := cells_draw2 h9
 obtain ⟨log, rfl, l1⟩ := cells_log h10
 obtain ⟨v, rfl, l2⟩ := cells_vec h11
 injection he with he
 subst he
 exact ⟨⟨a, b, c, e, r, p, q, l, x, log, v⟩, rfl, ⟨by simp only; omega, by simp only; omega⟩⟩
theorem underlyingInt : Tryz.prog.underlying 3 = some (.int .i64) := Tryz.underlying3
theorem elem_int (n : Int) : elemD Tryz.prog 3 [.int .i64 n] = .int .i64 n := by simp only [elemD, Tryz.underlying3]; rfl
theorem elem_Msg (ds : List Dat) : elemD Tryz.prog 54 ds = .agg ds := by simp only [elemD, Tryz.underlying54]
end Go.Proofs.YtfoglingdnhjpaaGreatDoor
namespace Go.Proofs.YtfoglingdnhjpaaGreatDoor
set_option linter.all false
open Go.Ax Go.ChangeShapes Go.WideShapes Go.ChangeAt Go.RowKit
set_option maxRecDepth 100000
theorem wf_u64 {n : Int} (h : (Lit.int .u64 n).wf = true) : 0 ≤ n := by
 have : 0 ≤ n ∧ n ≤ 18446744073709551615 := by simpa [Lit.wf, IntKind.min, IntKind.max, IntKind.signed, IntKind.bits] using h
 exact this.1
theorem cells_drawN {B f : Nat} {ds : List Dat} (h : Cells Tryz.prog B (f + 2) 26 ds) : ∃ x : Draw, encD x = .agg ds ∧ Nn x := by
 simp only [Cells, Tryz.underlying26, Tryz.underlying24, List.map_cons, List.map_nil, Parts] at h
 obtain ⟨_, _, rfl, ⟨n, rfl, hn⟩, _, _, rfl, ⟨m, rfl, hm⟩, rfl⟩ := h
 exact ⟨⟨n, m⟩, rfl, wf_u64 hn, wf_u64 hm⟩
theorem cells_vecN {B f : Nat} {ds : List Dat} (h : Cells Tryz.prog B (f + 3) 30 ds) : ∃ l : List Draw, ds = [encV l] ∧ l.length ≤ B ∧ ∀ x ∈ l, Nn x := by
 rw [Cells] at h
 simp only [Tryz.underlying30, cellsOf_Draw, flat_Draw] at h
 obtain ⟨xs, rfl, hl, hx⟩ := h
 obtain ⟨m, rfl, hP⟩ := list_of (enc := encD) (P := fun x => Nn x) (l := xs) (fun x hxm => by
  obtain ⟨cs, hc, rfl⟩ := hx x hxm
  obtain ⟨d, hd, hn⟩ := cells_drawN (f := f) hc
  exact ⟨d, by rw [elem_Draw]; exact hd, hn⟩)
 exact ⟨m, rfl, by simpa using hl, hP⟩
theorem cells_stateN {B f : Nat} (hB : B ≤ 1048576) {ds : List Dat} (h : Cells Tryz.prog B (f + 7) 36 ds) : ∃ s : State, encS s = .agg ds ∧ Small2 s ∧ ∀ x ∈ s.vector, Nn x := by
 rw [Cells] at h
 simp only [Tryz.underlying36, List.map_cons, List.map_nil, Parts] at h
 obtain ⟨_, _, rfl, h1, _, _, rfl, h2, _, _, rfl, h3, _, _, rfl, h4, _, _, rfl, h5, _, _, rfl, h6, _, _, rfl, h7, _, _, rfl, h8, _, _, rfl, h9, _, _, rfl, h10, _, _, rfl, h11, _, _, rfl, h12, rfl⟩ := h
 obtain ⟨a, rfl⟩ := cells_int Tryz.underlying3 h1
 obtain ⟨b, rfl⟩ := cells_int Tryz.underlying27 h2
 obtain ⟨c, rfl⟩ := cells_int Tryz.underlying3 h3
 obtain ⟨d, rfl⟩ := cells_int Tryz.underlying3 h4
 obtain ⟨log, rfl, l1⟩ := cells_log h5
 obtain ⟨e, rfl⟩ := cells_int Tryz.underlying3 h6
 obtain ⟨v, rfl, l2, l9⟩ := cells_vecN h7
 obtain ⟨g, rfl⟩ := cells_int Tryz.underlying3 h8
 obtain ⟨acks, rfl, l3⟩ := cells_acks h9
 obtain ⟨marks, rfl, l4⟩ := cells_marks h10
 obtain ⟨bals, rfl, l5, l6⟩ := cells_bals h11
 obtain ⟨anss, rfl, l7, l8⟩ := cells_anss h12
 exact ⟨⟨a, b, c, d, log, e, v, g, acks, marks, bals, anss⟩, rfl, ⟨⟨by simp only; omega, by simp only; omega, by simp only; omega, by simp only; omega, by simp only; omega, by simp only; omega, fun x hx => by have := l6 x hx; omega, fun x hx => by have := l8 x hx; omega⟩,
  by simp only; omega, by simp only; omega, fun x hx => by have := l6 x hx; omega, fun x hx => by have := l8 x hx; omega⟩, l9⟩
end Go.Proofs.YtfoglingdnhjpaaGreatDoor
namespace Go.Proofs.YtfoglingdnhjpaaGreatDoor
set_option linter.all false
open Go.Ax Go.ChangeShapes Go.WideShapes Go.ChangeAt Go.RowKit
set_option maxRecDepth 100000
end Go.Proofs.YtfoglingdnhjpaaGreatDoor
namespace Go.Ax
open Go.Proofs Go.Proofs.YtfoglingdnhjpaaGreatDoor
set_option linter.all false
set_option maxRecDepth 100000
abbrev laidU : List (String × DataW Unit) := [("amnesia/message.uses", Rows.laid_amnesia_message_uses)]
abbrev bitsD {H : Type} (l : List Bool) : DataW H := .agg (l.map fun b => .lit (.bool b))
theorem trod_bits {P : Program} {w : World} {H : Type} {enc : TypeId × Value → H} {base : Nat} {sp : Nat → Bool} {held : Bool} {fuel n : Nat} {t e : TypeId} {cs : List Value} {bs : List Bool} {p : List MemPlace} (ht : P.underlying t = some (.array n e)) (he : P.underlying e = some .bool) (hc : P.cellsOf e = 1) (ht1 : P.cellsOf t = n)
  (h : DataW.trod enc P w base sp held fuel t cs = some (bitsD bs, p)) : cs = bs.map .bool := by
 obtain ⟨xs, m, _, hx, hl, hn, hel⟩ := DataW.trod_array ht h
 simp only [bitsD, Prod.mk.injEq, DataW.agg.injEq] at hx
 have hbl : bs.length = n := by have := congrArg List.length hx.1; simpa [hn] using this
 refine List.ext_getElem (by simp [hl, ht1, hbl]) (fun i h1 h2 => ?_)
 have hi : i < n := by omega
 have hE := hel i hi
 rw [hc, Nat.mul_one] at hE
 have hxi : xs[i]? = some xs[i] := List.getElem?_eq_getElem (by omega)
 rw [hxi] at hE
 obtain ⟨b, hb, hx1⟩ := DataW.trod_bool he hE
 have h3 : (xs.map (·.1))[i]? = (bs.map fun b => (DataW.lit (.bool b) : DataW H))[i]? := by rw [hx.1]
 rw [List.getElem?_map, hxi, List.getElem?_map, List.getElem?_eq_getElem (by omega)] at h3
 simp only [Option.map_some, Option.some.injEq, hx1, DataW.lit.injEq, Lit.bool.injEq] at h3
 have h4 : ((cs.drop i).take 1)[0]? = some (.bool b) := by rw [hb]; rfl
 rw [List.getElem?_take, if_pos (by omega), List.getElem?_drop, Nat.add_zero, List.getElem?_eq_getElem h1] at h4
 simp only [Option.some.injEq] at h4
 rw [h4, List.getElem_map, ← h3]
theorem trod_table {P : Program} {w : World} {H : Type} {enc : TypeId × Value → H} {base : Nat} {sp : Nat → Bool} {held : Bool} {fuel n m : Nat} {t u e : TypeId} {cs : List Value} {bs : List (List Bool)} {p : List MemPlace} (ht : P.underlying t = some (.array n u)) (hu : P.underlying u = some (.array m e)) (he : P.underlying e = some .bool) (hc : P.cellsOf e = 1) (hu1 : P.cellsOf u = m) (ht1 : P.cellsOf t = n * m) (hm : 0 < m)
  (h : DataW.trod enc P w base sp held fuel t cs = some (.agg (bs.map bitsD), p)) : cs = bs.flatten.map .bool := by
 obtain ⟨xs, m', _, hx, hl, hn, hel⟩ := DataW.trod_array ht h
 simp only [Prod.mk.injEq, DataW.agg.injEq] at hx
 have hbl : bs.length = n := by have := congrArg List.length hx.1; simpa [hn] using this
 have hrow : ∀ i, i < n → (cs.drop (i * m)).take m = ((bs[i]?).getD []).map .bool := by
  intro i hi
  have hE := hel i hi
  rw [hu1] at hE
  have hxi : xs[i]? = some xs[i] := List.getElem?_eq_getElem (by omega)
  rw [hxi] at hE
  have h3 : (xs.map (·.1))[i]? = (bs.map (bitsD (H := H)))[i]? := by rw [hx.1]
  rw [List.getElem?_map, hxi, List.getElem?_map, List.getElem?_eq_getElem (by omega)] at h3
  simp only [Option.map_some, Option.some.injEq] at h3
  rw [List.getElem?_eq_getElem (by omega)]
  exact trod_bits hu he hc hu1 (p := xs[i].2) (by rw [hE]; show some xs[i] = some (bitsD bs[i], xs[i].2); rw [← h3])
 have key : ∀ (k : Nat), k ≤ n → cs.take (k * m) = (bs.take k).flatten.map .bool := by
  intro k
  induction k with
  | zero => intro _; simp
  | succ k ih =>
   intro hk
   rw [Nat.succ_mul, List.take_add, ih (by omega), hrow k (by omega), List.take_succ, List.getElem?_eq_getElem (by omega)]
   simp only [Option.getD_some, Option.toList_some, List.flatten_append, List.flatten_cons, List.flatten_nil, List.append_nil, List.map_append]
 have := key n (Nat.le_refl _)
 rw [List.take_of_length_le (by rw [hl, ht1]; exact Nat.le_refl _), List.take_of_length_le (by omega)] at this
 exact this
theorem gUses : Tryz.prog.globalNamed "amnesia/message.uses" = some 0 := by kernel_rfl
theorem met_cells {W : World} (h : laidMetH Tryz.prog laidU W) : ∀ (k : Nat) (b : Bool), usesB.flatten[k]? = some b → W.cell? ⟨0, k, none⟩ = some (.bool b) := by
 rw [MakeChecks.laidMetH_plain _ _ _ (by kernel_rfl)] at h
 obtain ⟨ps, ⟨g0, t0, cs0, f0, p0, q0, hg0, ht0, hv0, hd0, _⟩, _, _⟩ := h
 obtain rfl := Option.some.inj (gUses.symm.trans hg0)
 have hD : (Rows.laid_amnesia_message_uses : DataW Unit) = .agg (usesB.map bitsD) := rfl
 rw [hD] at hd0
 have hT : (Tryz.prog.globals[(0 : Nat)]?).map (·.type) = some 171 := by kernel_rfl
 obtain rfl := Option.some.inj (hT.symm.trans ht0)
 have hc := trod_table (bs := usesB) (n := 15) (m := 10) (u := 170) (e := 4) (by kernel_rfl) (by kernel_rfl) (by kernel_rfl) (by kernel_rfl) (by kernel_rfl) (by kernel_rfl) (by decide) hd0
 intro k b hb
 rw [World.var?_cell hg0 hv0 k, ← Array.getElem?_toList, hc, List.getElem?_map, hb]
 rfl
theorem met_G {W : World} (h : laidMetH Tryz.prog laidU W) : ∀ C : Ctx, C.Fz = (fun b => b < W.heap.size) → GlR C W := by
 intro C hC g ds hg
 have h1 := met_cells h
 simp only [Gls.G] at hg
 split at hg
 ·rename_i hg0
  subst hg0
  simp only [Option.some.injEq] at hg
  subst hg
  have hb : (0 : Nat) < W.heap.size := by
   have := h1 0 false rfl
   unfold World.cell? at this
   simp only at this
   by_cases hlt : (0 : Nat) < W.heap.size
   ·exact hlt
   ·rw [Array.getElem?_eq_none (by omega)] at this
    cases this
  refine .dptr ⟨0, 0, none⟩ _ (fun k => .bool ((usesB.flatten[k]?).getD false)) (by rw [hC]; exact hb) (fun k d hk => ?_) (fun k d hk => ?_)
  ·unfold usesD at hk
   rw [List.getElem?_map] at hk
   cases hu : usesB.flatten[k]? with
   | none => rw [hu] at hk; cases hk
   | some b =>
    have := h1 k b hu
    refine ⟨?_, rfl⟩
    simp only [Option.getD_some]
    rw [← this]
    simp only [Addr.add]
    split
    ·rename_i h0
     try simp at h0
     rw [h0]
    ·first | rfl | simp
  ·unfold usesD at hk
   rw [List.getElem?_map] at hk
   cases hu : usesB.flatten[k]? with
   | none => rw [hu] at hk; cases hk
   | some b =>
    rw [hu] at hk
    simp only [Option.map_some, Option.some.injEq] at hk
    subst hk
    exact .bool b
 ·cases hg
theorem met_start (os : Os) (args : Array Value) : laidMetH Tryz.prog laidU ((World.laidAll Tryz.prog os laidU).forCall (fun _ _ => 0) ⟨#[], args, []⟩).memory := by
 rw [MakeChecks.laidMetH_plain _ _ _ (by kernel_rfl)]
 exact laidMet_laidAll args (by kernel_rfl) (by kernel_rfl)
end Go.Ax
namespace Go.Proofs.YtfoglingdnhjpaaGreatDoor
set_option linter.all false
open Go.Ax Go.ChangeShapes Go.WideShapes Go.ChangeAt Go.RowKit
set_option maxRecDepth 100000
end Go.Proofs.YtfoglingdnhjpaaGreatDoor
