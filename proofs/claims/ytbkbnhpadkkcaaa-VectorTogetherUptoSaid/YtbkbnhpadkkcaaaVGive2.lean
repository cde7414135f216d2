/-
  Draws that come in are not below zero; slices of vectors.
-/
import Derived.Test.YtbkbnhpadkkcaaaVGive
import Derived.Test.YtbkbnhpadkkcaaaVW
namespace Go.Proofs.Ytbkbnhpadkkcaaa
open Go.Ax Go.ChangeShapes Go.WideShapes Go.ChangeAt Go.RowKit
set_option maxRecDepth 100000

theorem wf_u64 {n : Int} (h : (Lit.int .u64 n).wf = true) : 0 ≤ n := by
  have : 0 ≤ n ∧ n ≤ 18446744073709551615 := by simpa [Lit.wf, IntKind.min, IntKind.max, IntKind.signed, IntKind.bits] using h
  exact this.1
theorem cells_drawN {B f : Nat} {ds : List Dat} (h : Cells Try.prog B (f + 2) 26 ds) : ∃ x : Draw, encD x = .agg ds ∧ Nn x := by
  simp only [Cells, Try.underlying26, Try.underlying24, List.map_cons, List.map_nil, Parts] at h
  obtain ⟨a, b, rfl, ⟨n, rfl, hn⟩, c, e, rfl, ⟨m, rfl, hm⟩, rfl⟩ := h
  exact ⟨⟨n, m⟩, rfl, wf_u64 hn, wf_u64 hm⟩
theorem drawsN {l : List Dat} (h : ∀ x ∈ l, ∃ d : Draw, encD d = x ∧ Nn d) : ∃ m : List Draw, l = m.map encD ∧ ∀ x ∈ m, Nn x := by
  induction l with
  | nil => exact ⟨[], rfl, fun x hx => by cases hx⟩
  | cons x l ih =>
    obtain ⟨d, hd, hn⟩ := h x (by simp)
    obtain ⟨m, hm, hmn⟩ := ih (fun y hy => h y (by simp [hy]))
    refine ⟨d :: m, by rw [hm, ← hd]; rfl, fun y hy => ?_⟩
    rcases List.mem_cons.1 hy with e | e
    · rw [e]; exact hn
    · exact hmn y e
theorem cells_vecN {B f : Nat} {ds : List Dat} (h : Cells Try.prog B (f + 3) 23 ds) : ∃ l : List Draw, ds = [encV l] ∧ l.length ≤ B ∧ ∀ x ∈ l, Nn x := by
  rw [Cells] at h
  simp only [Try.underlying23, cellsOf26, flat26] at h
  obtain ⟨xs, rfl, hl, hx⟩ := h
  obtain ⟨m, rfl, hn⟩ := drawsN (l := xs) (fun x hxm => by
    obtain ⟨cs, hc, rfl⟩ := hx x hxm
    obtain ⟨d, hd, hn⟩ := cells_drawN (f := f) hc
    exact ⟨d, by rw [elem_draw]; exact hd, hn⟩)
  exact ⟨m, rfl, by simpa using hl, hn⟩

end Go.Proofs.Ytbkbnhpadkkcaaa
