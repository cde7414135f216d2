/-
  What comes in: slices of vectors, voices, slices of voices, slices of booleans.
-/
import Derived.Test.YtbkbnhpadkkcaaaVGive2
import Derived.Test.YtbkbnhpadkkcaaaVV
namespace Go.Proofs.Ytbkbnhpadkkcaaa
open Go.Ax Go.ChangeShapes Go.WideShapes Go.ChangeAt Go.RowKit
set_option maxRecDepth 100000

theorem list_of {α : Type} {enc : α → Dat} {P : α → Prop} {l : List Dat} (h : ∀ x ∈ l, ∃ d, enc d = x ∧ P d) : ∃ m : List α, l = m.map enc ∧ ∀ d ∈ m, P d := by
  induction l with
  | nil => exact ⟨[], rfl, fun x hx => by cases hx⟩
  | cons x l ih =>
    obtain ⟨d, hd, hn⟩ := h x (by simp)
    obtain ⟨m, hm, hmn⟩ := ih (fun y hy => h y (by simp [hy]))
    refine ⟨d :: m, by rw [hm, ← hd]; rfl, fun y hy => ?_⟩
    rcases List.mem_cons.1 hy with e | e
    · rw [e]; exact hn
    · exact hmn y e
theorem cellsOf23 : Try.prog.cellsOf 23 = 1 := by kernel_rfl
theorem flat23 : flatT Try.prog 16 23 = false := by kernel_rfl
theorem cells_vecs {B f : Nat} {ds : List Dat} (h : Cells Try.prog B (f + 4) 28 ds) : ∃ l : List (List Draw), ds = [encL l] ∧ l.length ≤ B ∧ ∀ v ∈ l, v.length ≤ B ∧ ∀ x ∈ v, Nn x := by
  rw [Cells] at h
  simp only [Try.underlying28, cellsOf23, flat23] at h
  obtain ⟨xs, rfl, hl, hx⟩ := h
  obtain ⟨m, rfl, hn⟩ := list_of (enc := encV) (P := fun v => v.length ≤ B ∧ ∀ x ∈ v, Nn x) (l := xs) (fun x hxm => by
    obtain ⟨cs, hc, rfl⟩ := hx x hxm
    obtain ⟨d, rfl, h1, h2⟩ := cells_vecN (f := f) hc
    exact ⟨d, (elem_vec d).symm, h1, h2⟩)
  exact ⟨m, rfl, by simpa using hl, hn⟩
theorem elem_vecs (l : List (List Draw)) : elemD Try.prog 28 [encL l] = encL l := by simp only [elemD, Try.underlying28]; rfl
theorem cells_voice {B f : Nat} {ds : List Dat} (h : Cells Try.prog B (f + 4) 56 ds) : ∃ x : Voice, encVo x = .agg ds ∧ x.vec.length ≤ B ∧ ∀ y ∈ x.vec, Nn y := by
  rw [Cells] at h
  simp only [Try.underlying56, List.map_cons, List.map_nil, Parts] at h
  obtain ⟨a, b, rfl, h3, c, e, rfl, h23, rfl⟩ := h
  obtain ⟨n, rfl, _⟩ := cells_int Try.underlying3 h3
  obtain ⟨l, rfl, h1, h2⟩ := cells_vecN (f := f) h23
  exact ⟨⟨n, l⟩, rfl, h1, h2⟩
theorem elem_voice (ds : List Dat) : elemD Try.prog 56 ds = .agg ds := by simp only [elemD, Try.underlying56]
theorem cellsOf56 : Try.prog.cellsOf 56 = 2 := by kernel_rfl
theorem flat56 : flatT Try.prog 16 56 = false := by kernel_rfl
theorem cells_voices {B f : Nat} {ds : List Dat} (h : Cells Try.prog B (f + 5) 54 ds) : ∃ l : List Voice, ds = [encVos l] ∧ l.length ≤ B ∧ ∀ v ∈ l, v.vec.length ≤ B ∧ ∀ x ∈ v.vec, Nn x := by
  rw [Cells] at h
  simp only [Try.underlying54, cellsOf56, flat56] at h
  obtain ⟨xs, rfl, hl, hx⟩ := h
  obtain ⟨m, rfl, hn⟩ := list_of (enc := encVo) (P := fun v => v.vec.length ≤ B ∧ ∀ x ∈ v.vec, Nn x) (l := xs) (fun x hxm => by
    obtain ⟨cs, hc, rfl⟩ := hx x hxm
    obtain ⟨d, hd, h1, h2⟩ := cells_voice (f := f) hc
    exact ⟨d, by rw [elem_voice]; exact hd, h1, h2⟩)
  exact ⟨m, rfl, by simpa using hl, hn⟩
theorem elem_voices (l : List Voice) : elemD Try.prog 54 [encVos l] = encVos l := by simp only [elemD, Try.underlying54]; rfl
theorem cellsOf4 : Try.prog.cellsOf 4 = 1 := by kernel_rfl
theorem flat4 : flatT Try.prog 16 4 = true := by kernel_rfl
theorem cells_bools {B f : Nat} {ds : List Dat} (h : Cells Try.prog B (f + 2) 70 ds) : ∃ l : List Bool, ds = [encBs l] ∧ l.length ≤ B := by
  rw [Cells] at h
  simp only [Try.underlying70, cellsOf4, flat4] at h
  obtain ⟨xs, rfl, hl, hx⟩ := h
  obtain ⟨m, rfl, hn⟩ := list_of (enc := Dat.bool) (P := fun _ => True) (l := xs) (fun x hxm => by
    obtain ⟨cs, hc, rfl⟩ := hx x hxm
    simp only [Cells, Try.underlying4] at hc
    obtain ⟨b, rfl⟩ := hc
    exact ⟨b, by simp only [elemD, Try.underlying4]; rfl, trivial⟩)
  exact ⟨m, rfl, by simpa using hl⟩
theorem elem_bools (l : List Bool) : elemD Try.prog 70 [encBs l] = encBs l := by simp only [elemD, Try.underlying70]; rfl

end Go.Proofs.Ytbkbnhpadkkcaaa
