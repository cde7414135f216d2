/-
  What the arguments of this seat's laws are, and what the bound on their bulk gives.
-/
import Derived.Test.YtponcchkfmbicaaEE
import Derived.Test.YtponcchkfmbicaaRows
import Derived.WalkKit
import Derived.JoinedCond
namespace Go.Proofs.Ytponcchkfmbicaa
set_option linter.all false
open Go.Ax Go.ChangeShapes Go.WideShapes Go.ChangeAt Go.RowKit
set_option maxRecDepth 100000

theorem own : ownKnob Try.prog.godebug = none := by kernel_rfl
theorem laidOut : laidOutB Try.prog = true := by kernel_rfl

theorem bulk_part {H : Type} {d : DataW H} {l : List (DataW H)} (h : d ∈ l) : Rows.uptoBulk d ≤ Rows.uptoBulkAll l := by
  induction l with
  | nil => cases h
  | cons x r ih =>
    simp only [Rows.uptoBulkAll]
    cases List.mem_cons.1 h with
    | inl e => subst e; omega
    | inr e => have := ih e; omega
theorem bulk_one {H : Type} (d : DataW H) : 1 ≤ Rows.uptoBulk d := by
  cases d with
  | lit l => cases l <;> simp [Rows.uptoBulk]
  | nil => simp [Rows.uptoBulk]
  | ptr d => simp [Rows.uptoBulk]
  | slice elems spare => simp [Rows.uptoBulk]
  | agg parts => simp [Rows.uptoBulk]
  | iface t d => simp [Rows.uptoBulk]
  | map entries => simp [Rows.uptoBulk]
  | held h => simp [Rows.uptoBulk]
theorem bulk_length {H : Type} (l : List (DataW H)) : l.length ≤ Rows.uptoBulkAll l := by
  induction l with
  | nil => simp
  | cons x r ih => have := bulk_one x; simp only [Rows.uptoBulkAll, List.length_cons]; omega
theorem bounds {H : Type} : Bounds (H := H) (fun d => Rows.uptoBulk d ≤ 1048576) 1048576 := by
  refine ⟨fun es sp _ h => ⟨?_, fun e he => ?_⟩, fun ps h p hp => ?_, fun b _ h => ?_⟩
  · have := bulk_length es
    simp only [Rows.uptoBulk] at h; omega
  · have := bulk_part he
    simp only [Rows.uptoBulk] at h; omega
  · have := bulk_part hp
    simp only [Rows.uptoBulk] at h; omega
  · simp only [Rows.uptoBulk] at h; omega
theorem small {H : Type} {l : List (DataW H)} (hk : Rows.uptoSmall H l = true) : ∀ d ∈ l, Rows.uptoBulk d ≤ 1048576 := by
  intro d hd
  have h1 : Rows.uptoBulkAll l ≤ 1048576 := of_decide_eq_true hk
  have := bulk_part hd
  omega

theorem list_of {α : Type} {enc : α → Dat} {P : α → Prop} {l : List Dat} (h : ∀ x ∈ l, ∃ d, enc d = x ∧ P d) : ∃ m : List α, l = m.map enc ∧ ∀ d ∈ m, P d := by
  induction l with
  | nil => exact ⟨[], rfl, fun x hx => by cases hx⟩
  | cons x l ih =>
    obtain ⟨d, hd, hn⟩ := h x (by simp)
    obtain ⟨m, hm, hmn⟩ := ih (fun y hy => h y (by simp [hy]))
    refine ⟨d :: m, by rw [hm, ← hd]; rfl, fun y hy => ?_⟩
    rcases List.mem_cons.1 hy with e | e
    · rw [e]; exact hn
    · exact hmn y e
theorem cells_int {B f t : Nat} {k : IntKind} {ds : List Dat} (hu : Try.prog.underlying t = some (.int k)) (h : Cells Try.prog B (f + 1) t ds) : ∃ n : Int, ds = [.int k n] := by
  simp only [Cells, hu] at h
  obtain ⟨n, rfl, _⟩ := h
  exact ⟨n, rfl⟩
theorem cells_cfg {B f : Nat} {ds : List Dat} (h : Cells Try.prog B (f + 2) 23 ds) : ∃ c : Cfg, encCfg c = .agg ds := by
  simp only [Cells, Try.underlying23, Try.underlying3, Try.underlying4, List.map_cons, List.map_nil, Parts] at h
  obtain ⟨_, _, rfl, ⟨a, rfl, _⟩, _, _, rfl, ⟨b, rfl, _⟩, _, _, rfl, ⟨c, rfl, _⟩, _, _, rfl, ⟨d, rfl⟩, rfl⟩ := h
  exact ⟨⟨a, b, c, d⟩, rfl⟩
theorem cells_op {B f : Nat} {ds : List Dat} (h : Cells Try.prog B (f + 2) 53 ds) : ∃ o : LOp, ds = [di o.kind, di o.slot, .str o.value] := by
  simp only [Cells, Try.underlying53, Try.underlying3, Try.underlying51, Try.underlying9, List.map_cons, List.map_nil, Parts] at h
  obtain ⟨_, _, rfl, ⟨a, rfl, _⟩, _, _, rfl, ⟨b, rfl, _⟩, _, _, rfl, ⟨c, rfl, _⟩, rfl⟩ := h
  exact ⟨⟨a, b, c⟩, rfl⟩
theorem cells_ent {B f : Nat} {ds : List Dat} (h : Cells Try.prog B (f + 3) 55 ds) : ∃ e : Ent, encE e = .agg ds := by
  rw [Cells] at h
  simp only [Try.underlying55, List.map_cons, List.map_nil, Parts] at h
  obtain ⟨_, _, rfl, h1, _, _, rfl, h2, _, _, rfl, h3, rfl⟩ := h
  obtain ⟨a, rfl⟩ := cells_int Try.underlying3 h1
  obtain ⟨b, rfl⟩ := cells_int Try.underlying3 h2
  obtain ⟨o, rfl⟩ := cells_op h3
  exact ⟨⟨a, b, o⟩, rfl⟩
theorem cells_draw {B f : Nat} {ds : List Dat} (h : Cells Try.prog B (f + 2) 60 ds) : ∃ x : Draw, encD x = .agg ds := by
  simp only [Cells, Try.underlying60, Try.underlying58, List.map_cons, List.map_nil, Parts] at h
  obtain ⟨_, _, rfl, ⟨a, rfl, _⟩, _, _, rfl, ⟨b, rfl, _⟩, rfl⟩ := h
  exact ⟨⟨a, b⟩, rfl⟩
theorem cells_draw2 {B f : Nat} {ds : List Dat} (h : Cells Try.prog B (f + 2) 60 ds) : ∃ x : Draw, ds = [du x.hi, du x.lo] := by
  obtain ⟨x, hx⟩ := cells_draw h
  injection hx with hx
  exact ⟨x, hx.symm⟩
theorem cellsOf_Entry : Try.prog.cellsOf 55 = 5 := by kernel_rfl
theorem flat_Entry : flatT Try.prog 16 55 = true := by kernel_rfl
theorem elem_Entry (ds : List Dat) : elemD Try.prog 55 ds = .agg ds := by simp only [elemD, Try.underlying55]
theorem cells_log {B f : Nat} {ds : List Dat} (h : Cells Try.prog B (f + 4) 25 ds) : ∃ l : List Ent, ds = [encLog l] ∧ l.length ≤ B := by
  rw [Cells] at h
  simp only [Try.underlying25, cellsOf_Entry, flat_Entry] at h
  obtain ⟨xs, rfl, hl, hx⟩ := h
  obtain ⟨m, rfl, hP⟩ := list_of (enc := encE) (P := fun x => True) (l := xs) (fun x hxm => by
    obtain ⟨cs, hc, rfl⟩ := hx x hxm
    obtain ⟨d, hd⟩ := cells_ent (f := f) hc
    exact ⟨d, by rw [elem_Entry]; exact hd, trivial⟩)
  exact ⟨m, rfl, by simpa using hl⟩
theorem cellsOf_Draw : Try.prog.cellsOf 60 = 2 := by kernel_rfl
theorem flat_Draw : flatT Try.prog 16 60 = true := by kernel_rfl
theorem elem_Draw (ds : List Dat) : elemD Try.prog 60 ds = .agg ds := by simp only [elemD, Try.underlying60]
theorem cells_vec {B f : Nat} {ds : List Dat} (h : Cells Try.prog B (f + 3) 27 ds) : ∃ l : List Draw, ds = [encV l] ∧ l.length ≤ B := by
  rw [Cells] at h
  simp only [Try.underlying27, cellsOf_Draw, flat_Draw] at h
  obtain ⟨xs, rfl, hl, hx⟩ := h
  obtain ⟨m, rfl, hP⟩ := list_of (enc := encD) (P := fun x => True) (l := xs) (fun x hxm => by
    obtain ⟨cs, hc, rfl⟩ := hx x hxm
    obtain ⟨d, hd⟩ := cells_draw (f := f) hc
    exact ⟨d, by rw [elem_Draw]; exact hd, trivial⟩)
  exact ⟨m, rfl, by simpa using hl⟩
theorem cells_ack {B f : Nat} {ds : List Dat} (h : Cells Try.prog B (f + 3) 118 ds) : ∃ x : Ack, encAck x = .agg ds := by
  rw [Cells] at h
  simp only [Try.underlying118, List.map_cons, List.map_nil, Parts] at h
  obtain ⟨_, _, rfl, h1, _, _, rfl, h2, _, _, rfl, h3, rfl⟩ := h
  obtain ⟨a, rfl⟩ := cells_int Try.underlying3 h1
  obtain ⟨x, rfl⟩ := cells_draw2 h2
  obtain ⟨b, rfl⟩ := cells_int Try.underlying3 h3
  exact ⟨⟨a, x, b⟩, rfl⟩
theorem cells_mark {B f : Nat} {ds : List Dat} (h : Cells Try.prog B (f + 3) 121 ds) : ∃ x : Ax.Mark, encMark x = .agg ds := by
  rw [Cells] at h
  simp only [Try.underlying121, List.map_cons, List.map_nil, Parts] at h
  obtain ⟨_, _, rfl, h1, _, _, rfl, h2, rfl⟩ := h
  obtain ⟨a, rfl⟩ := cells_int Try.underlying3 h1
  obtain ⟨x, rfl⟩ := cells_draw2 h2
  exact ⟨⟨a, x⟩, rfl⟩
theorem cells_bal {B f : Nat} {ds : List Dat} (h : Cells Try.prog B (f + 5) 88 ds) : ∃ x : Ballot, encBal x = .agg ds ∧ x.log.length ≤ B := by
  rw [Cells] at h
  simp only [Try.underlying88, List.map_cons, List.map_nil, Parts] at h
  obtain ⟨_, _, rfl, h1, _, _, rfl, h2, _, _, rfl, h3, _, _, rfl, h4, _, _, rfl, h5, rfl⟩ := h
  obtain ⟨a, rfl⟩ := cells_int Try.underlying3 h1
  obtain ⟨x, rfl⟩ := cells_draw2 h2
  obtain ⟨b, rfl⟩ := cells_int Try.underlying3 h3
  obtain ⟨c, rfl⟩ := cells_int Try.underlying3 h4
  obtain ⟨l, rfl, hl⟩ := cells_log h5
  exact ⟨⟨a, x, b, c, l⟩, rfl, hl⟩
theorem cells_ans {B f : Nat} {ds : List Dat} (h : Cells Try.prog B (f + 5) 90 ds) : ∃ x : Answer, encAns x = .agg ds ∧ x.log.length ≤ B := by
  rw [Cells] at h
  simp only [Try.underlying90, List.map_cons, List.map_nil, Parts] at h
  obtain ⟨_, _, rfl, h1, _, _, rfl, h2, _, _, rfl, h3, _, _, rfl, h4, _, _, rfl, h5, rfl⟩ := h
  obtain ⟨a, rfl⟩ := cells_int Try.underlying3 h1
  obtain ⟨x, rfl⟩ := cells_draw2 h2
  obtain ⟨b, rfl⟩ := cells_int Try.underlying3 h3
  obtain ⟨c, rfl⟩ := cells_int Try.underlying3 h4
  obtain ⟨l, rfl, hl⟩ := cells_log h5
  exact ⟨⟨a, x, b, c, l⟩, rfl, hl⟩
theorem cellsOf_Ack : Try.prog.cellsOf 118 = 4 := by kernel_rfl
theorem flat_Ack : flatT Try.prog 16 118 = true := by kernel_rfl
theorem elem_Ack (ds : List Dat) : elemD Try.prog 118 ds = .agg ds := by simp only [elemD, Try.underlying118]
theorem cells_acks {B f : Nat} {ds : List Dat} (h : Cells Try.prog B (f + 4) 28 ds) : ∃ l : List Ack, ds = [encAcks l] ∧ l.length ≤ B := by
  rw [Cells] at h
  simp only [Try.underlying28, cellsOf_Ack, flat_Ack] at h
  obtain ⟨xs, rfl, hl, hx⟩ := h
  obtain ⟨m, rfl, hP⟩ := list_of (enc := encAck) (P := fun x => True) (l := xs) (fun x hxm => by
    obtain ⟨cs, hc, rfl⟩ := hx x hxm
    obtain ⟨d, hd⟩ := cells_ack (f := f) hc
    exact ⟨d, by rw [elem_Ack]; exact hd, trivial⟩)
  exact ⟨m, rfl, by simpa using hl⟩
theorem cellsOf_Mark : Try.prog.cellsOf 121 = 3 := by kernel_rfl
theorem flat_Mark : flatT Try.prog 16 121 = true := by kernel_rfl
theorem elem_Mark (ds : List Dat) : elemD Try.prog 121 ds = .agg ds := by simp only [elemD, Try.underlying121]
theorem cells_marks {B f : Nat} {ds : List Dat} (h : Cells Try.prog B (f + 4) 29 ds) : ∃ l : List Ax.Mark, ds = [encMarks l] ∧ l.length ≤ B := by
  rw [Cells] at h
  simp only [Try.underlying29, cellsOf_Mark, flat_Mark] at h
  obtain ⟨xs, rfl, hl, hx⟩ := h
  obtain ⟨m, rfl, hP⟩ := list_of (enc := encMark) (P := fun x => True) (l := xs) (fun x hxm => by
    obtain ⟨cs, hc, rfl⟩ := hx x hxm
    obtain ⟨d, hd⟩ := cells_mark (f := f) hc
    exact ⟨d, by rw [elem_Mark]; exact hd, trivial⟩)
  exact ⟨m, rfl, by simpa using hl⟩
theorem cellsOf_Ballot : Try.prog.cellsOf 88 = 6 := by kernel_rfl
theorem flat_Ballot : flatT Try.prog 16 88 = false := by kernel_rfl
theorem elem_Ballot (ds : List Dat) : elemD Try.prog 88 ds = .agg ds := by simp only [elemD, Try.underlying88]
theorem cells_bals {B f : Nat} {ds : List Dat} (h : Cells Try.prog B (f + 6) 30 ds) : ∃ l : List Ballot, ds = [encBals l] ∧ l.length ≤ B ∧ ∀ x ∈ l, x.log.length ≤ B := by
  rw [Cells] at h
  simp only [Try.underlying30, cellsOf_Ballot, flat_Ballot] at h
  obtain ⟨xs, rfl, hl, hx⟩ := h
  obtain ⟨m, rfl, hP⟩ := list_of (enc := encBal) (P := fun x => x.log.length ≤ B) (l := xs) (fun x hxm => by
    obtain ⟨cs, hc, rfl⟩ := hx x hxm
    obtain ⟨d, hd, hq⟩ := cells_bal (f := f) hc
    exact ⟨d, by rw [elem_Ballot]; exact hd, hq⟩)
  exact ⟨m, rfl, by simpa using hl, hP⟩
theorem cellsOf_Answer : Try.prog.cellsOf 90 = 6 := by kernel_rfl
theorem flat_Answer : flatT Try.prog 16 90 = false := by kernel_rfl
theorem elem_Answer (ds : List Dat) : elemD Try.prog 90 ds = .agg ds := by simp only [elemD, Try.underlying90]
theorem cells_anss {B f : Nat} {ds : List Dat} (h : Cells Try.prog B (f + 6) 31 ds) : ∃ l : List Answer, ds = [encAnss l] ∧ l.length ≤ B ∧ ∀ x ∈ l, x.log.length ≤ B := by
  rw [Cells] at h
  simp only [Try.underlying31, cellsOf_Answer, flat_Answer] at h
  obtain ⟨xs, rfl, hl, hx⟩ := h
  obtain ⟨m, rfl, hP⟩ := list_of (enc := encAns) (P := fun x => x.log.length ≤ B) (l := xs) (fun x hxm => by
    obtain ⟨cs, hc, rfl⟩ := hx x hxm
    obtain ⟨d, hd, hq⟩ := cells_ans (f := f) hc
    exact ⟨d, by rw [elem_Answer]; exact hd, hq⟩)
  exact ⟨m, rfl, by simpa using hl, hP⟩
theorem cells_state {B f : Nat} (hB : B ≤ 1048576) {ds : List Dat} (h : Cells Try.prog B (f + 7) 33 ds) : ∃ s : State, encS s = .agg ds ∧ Small2 s := by
  rw [Cells] at h
  simp only [Try.underlying33, List.map_cons, List.map_nil, Parts] at h
  obtain ⟨_, _, rfl, h1, _, _, rfl, h2, _, _, rfl, h3, _, _, rfl, h4, _, _, rfl, h5, _, _, rfl, h6, _, _, rfl, h7, _, _, rfl, h8, _, _, rfl, h9, _, _, rfl, h10, _, _, rfl, h11, _, _, rfl, h12, rfl⟩ := h
  obtain ⟨a, rfl⟩ := cells_int Try.underlying3 h1
  obtain ⟨b, rfl⟩ := cells_int Try.underlying24 h2
  obtain ⟨c, rfl⟩ := cells_int Try.underlying3 h3
  obtain ⟨d, rfl⟩ := cells_int Try.underlying3 h4
  obtain ⟨log, rfl, l1⟩ := cells_log h5
  obtain ⟨e, rfl⟩ := cells_int Try.underlying3 h6
  obtain ⟨v, rfl, l2⟩ := cells_vec h7
  obtain ⟨g, rfl⟩ := cells_int Try.underlying3 h8
  obtain ⟨acks, rfl, l3⟩ := cells_acks h9
  obtain ⟨marks, rfl, l4⟩ := cells_marks h10
  obtain ⟨bals, rfl, l5, l6⟩ := cells_bals h11
  obtain ⟨anss, rfl, l7, l8⟩ := cells_anss h12
  exact ⟨⟨a, b, c, d, log, e, v, g, acks, marks, bals, anss⟩, rfl, ⟨by simp only; omega, by simp only; omega, by simp only; omega, by simp only; omega, by simp only; omega, by simp only; omega, fun x hx => by have := l6 x hx; omega, fun x hx => by have := l8 x hx; omega⟩,
    by simp only; omega, by simp only; omega, fun x hx => by have := l6 x hx; omega, fun x hx => by have := l8 x hx; omega⟩
theorem elem_Config (ds : List Dat) : elemD Try.prog 23 ds = .agg ds := by simp only [elemD, Try.underlying23]
theorem elem_State (ds : List Dat) : elemD Try.prog 33 ds = .agg ds := by simp only [elemD, Try.underlying33]
end Go.Proofs.Ytponcchkfmbicaa

namespace Go.Proofs.Ytponcchkfmbicaa
set_option linter.all false
open Go.Ax Go.ChangeShapes Go.WideShapes Go.ChangeAt Go.RowKit
set_option maxRecDepth 100000

theorem cells_res {B f : Nat} {ds : List Dat} (h : Cells Try.prog B (f + 2) 57 ds) : ∃ o : Res, ds = [di o.code, di o.slot, .str o.value] := by
  simp only [Cells, Try.underlying57, Try.underlying3, Try.underlying9, List.map_cons, List.map_nil, Parts] at h
  obtain ⟨_, _, rfl, ⟨a, rfl, _⟩, _, _, rfl, ⟨b, rfl, _⟩, _, _, rfl, ⟨c, rfl, _⟩, rfl⟩ := h
  exact ⟨⟨a, b, c⟩, rfl⟩
theorem cells_msg {B f : Nat} (hB : B ≤ 1048576) {ds : List Dat} (h : Cells Try.prog B (f + 7) 62 ds) : ∃ m : Msg, encM m = .agg ds ∧ SmallM m := by
  rw [Cells] at h
  simp only [Try.underlying62, List.map_cons, List.map_nil, Parts] at h
  obtain ⟨_, _, rfl, h1, _, _, rfl, h2, _, _, rfl, h3, _, _, rfl, h4, _, _, rfl, h5, _, _, rfl, h6, _, _, rfl, h7, _, _, rfl, h8, _, _, rfl, h9, _, _, rfl, h10, _, _, rfl, h11, rfl⟩ := h
  obtain ⟨a, rfl⟩ := cells_int Try.underlying51 h1
  obtain ⟨b, rfl⟩ := cells_int Try.underlying3 h2
  obtain ⟨c, rfl⟩ := cells_int Try.underlying3 h3
  obtain ⟨e, he⟩ := cells_ent h4
  obtain ⟨r, rfl⟩ := cells_res h5
  obtain ⟨p, rfl⟩ := cells_int Try.underlying3 h6
  obtain ⟨q, rfl⟩ := cells_int Try.underlying3 h7
  obtain ⟨l, rfl⟩ := cells_int Try.underlying3 h8
  obtain ⟨x, rfl⟩ := cells_draw2 h9
  obtain ⟨log, rfl, l1⟩ := cells_log h10
  obtain ⟨v, rfl, l2⟩ := cells_vec h11
  injection he with he
  subst he
  exact ⟨⟨a, b, c, e, r, p, q, l, x, log, v⟩, rfl, ⟨by simp only; omega, by simp only; omega⟩⟩
theorem underlyingInt : Try.prog.underlying 3 = some (.int .i64) := Try.underlying3
theorem elem_int (n : Int) : elemD Try.prog 3 [.int .i64 n] = .int .i64 n := by simp only [elemD, Try.underlying3]; rfl
theorem elem_Msg (ds : List Dat) : elemD Try.prog 62 ds = .agg ds := by simp only [elemD, Try.underlying62]
end Go.Proofs.Ytponcchkfmbicaa
