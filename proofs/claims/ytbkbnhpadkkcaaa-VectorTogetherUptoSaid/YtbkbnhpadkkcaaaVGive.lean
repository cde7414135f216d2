/-
  What the arguments of this seat's laws are, and what the bound on their bulk gives.
-/
import Derived.Test.YtbkbnhpadkkcaaaVP
import Derived.Test.YtbkbnhpadkkcaaaRows
import Derived.WalkKit
import Derived.JoinedCond
namespace Go.Proofs.Ytbkbnhpadkkcaaa
open Go.Ax Go.ChangeShapes Go.WideShapes Go.ChangeAt Go.RowKit
set_option maxRecDepth 100000

theorem own : ownKnob Try.prog.godebug = none := by kernel_rfl
theorem laidOut : laidOutB Try.prog = true := by kernel_rfl

theorem bulk_part {H : Type} {d : DataW H} {l : List (DataW H)} (h : d ∈ l) : Rows.uptoBulk d ≤ Rows.uptoBulkAll l := by
  induction l with
  | nil => cases h
  | cons x r ih =>
    simp only [Rows.uptoBulkAll]
    cases List.mem_cons.1 h with
    | inl e => subst e; omega
    | inr e => have := ih e; omega
theorem bulk_one {H : Type} (d : DataW H) : 1 ≤ Rows.uptoBulk d := by
  cases d with
  | lit l => cases l <;> simp [Rows.uptoBulk]
  | nil => simp [Rows.uptoBulk]
  | ptr d => simp [Rows.uptoBulk]
  | slice elems spare => simp [Rows.uptoBulk]
  | agg parts => simp [Rows.uptoBulk]
  | iface t d => simp [Rows.uptoBulk]
  | map entries => simp [Rows.uptoBulk]
  | held h => simp [Rows.uptoBulk]
theorem bulk_length {H : Type} (l : List (DataW H)) : l.length ≤ Rows.uptoBulkAll l := by
  induction l with
  | nil => simp
  | cons x r ih => have := bulk_one x; simp only [Rows.uptoBulkAll, List.length_cons]; omega

theorem bounds {H : Type} : Bounds (H := H) (fun d => Rows.uptoBulk d ≤ 1048576) 1048576 := by
  refine ⟨fun es sp _ h => ⟨?_, fun e he => ?_⟩, fun ps h p hp => ?_, fun b _ h => ?_⟩
  · have := bulk_length es
    simp only [Rows.uptoBulk] at h; omega
  · have := bulk_part he
    simp only [Rows.uptoBulk] at h; omega
  · have := bulk_part hp
    simp only [Rows.uptoBulk] at h; omega
  · simp only [Rows.uptoBulk] at h; omega

theorem small {H : Type} {l : List (DataW H)} (hk : Rows.uptoSmall H l = true) : ∀ d ∈ l, Rows.uptoBulk d ≤ 1048576 := by
  intro d hd
  have h1 : Rows.uptoBulkAll l ≤ 1048576 := of_decide_eq_true hk
  have := bulk_part hd
  omega

theorem cells_int {B f t : Nat} {k : IntKind} {ds : List Dat} (hu : Try.prog.underlying t = some (.int k)) (h : Cells Try.prog B (f + 1) t ds) : ∃ n : Int, ds = [.int k n] ∧ (Lit.int k n).wf = true := by
  simpa only [Cells, hu] using h
theorem cells_draw {B f : Nat} {ds : List Dat} (h : Cells Try.prog B (f + 2) 26 ds) : ∃ x : Draw, encD x = .agg ds := by
  simp only [Cells, Try.underlying26, Try.underlying24, List.map_cons, List.map_nil, Parts] at h
  obtain ⟨a, b, rfl, ⟨n, rfl, _⟩, c, e, rfl, ⟨m, rfl, _⟩, rfl⟩ := h
  exact ⟨⟨n, m⟩, rfl⟩
theorem elem_draw (ds : List Dat) : elemD Try.prog 26 ds = .agg ds := by simp only [elemD, Try.underlying26]
theorem draws {l : List Dat} (h : ∀ x ∈ l, ∃ d : Draw, encD d = x) : ∃ m : List Draw, l = m.map encD := by
  induction l with
  | nil => exact ⟨[], rfl⟩
  | cons x l ih =>
    obtain ⟨d, hd⟩ := h x (by simp)
    obtain ⟨m, hm⟩ := ih (fun y hy => h y (by simp [hy]))
    exact ⟨d :: m, by rw [hm, ← hd]; rfl⟩
theorem cellsOf26 : Try.prog.cellsOf 26 = 2 := by kernel_rfl
theorem flat26 : flatT Try.prog 16 26 = true := by kernel_rfl
theorem cells_vec {B f : Nat} {ds : List Dat} (h : Cells Try.prog B (f + 3) 23 ds) : ∃ l : List Draw, ds = [encV l] ∧ l.length ≤ B := by
  rw [Cells] at h
  simp only [Try.underlying23, cellsOf26, flat26] at h
  obtain ⟨xs, rfl, hl, hx⟩ := h
  obtain ⟨m, rfl⟩ := draws (l := xs) (fun x hxm => by
    obtain ⟨cs, hc, rfl⟩ := hx x hxm
    obtain ⟨d, hd⟩ := cells_draw (f := f) hc
    exact ⟨d, by rw [elem_draw]; exact hd⟩)
  exact ⟨m, rfl, by simpa using hl⟩
theorem elem_vec (l : List Draw) : elemD Try.prog 23 [encV l] = encV l := by simp only [elemD, Try.underlying23]; rfl
theorem elem_int {t : Nat} {k : IntKind} (hu : Try.prog.underlying t = some (.int k)) (n : Int) : elemD Try.prog t [.int k n] = .int k n := by simp only [elemD, hu]; rfl

end Go.Proofs.Ytbkbnhpadkkcaaa
