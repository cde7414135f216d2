/-
  VectorMakes returns true and leaves its arguments as they were, for arguments that together hold at most 1048576 values and letters.
-/
import Derived.Test.YtbkbnhpadkkcaaaXL3
import Derived.Test.YtbkbnhpadkkcaaaXGive
namespace Go.Proofs.Ytbkbnhpadkkcaaa.vectorMakes
open Go.Ax Go.ChangeShapes Go.WideShapes Go.ChangeAt Go.RowKit
set_option maxRecDepth 100000

theorem law (vs : List AV) (h : ArgsOf Try.prog 1048576 16 Try.f3.params.toList vs) : ∃ n d H', runFn T n d 3 vs [] = some (.dat (.bool true), H') := by
  rw [Try.params3] at h
  cases h with
  | cons h0 h =>
    cases h with
    | cons h1 h =>
      cases h with
      | cons h2 h =>
        cases h with
        | cons h3 h =>
          cases h
          obtain ⟨l, rfl, hl⟩ := cells_vec h0
          obtain ⟨k, rfl, _⟩ := cells_int Try.underlying3 h1
          obtain ⟨j, rfl, _⟩ := cells_int Try.underlying3 h2
          obtain ⟨x, hx⟩ := cells_draw h3
          obtain ⟨H', hH⟩ := law3 (n := 1048578) (d := 0) l hl k j x (by omega)
          refine ⟨1048578, 0 + 4, H', ?_⟩
          rw [elem_vec, elem_int Try.underlying3, elem_int Try.underlying3, elem_draw, ← hx]
          exact hH

theorem readable : ∀ t ∈ Try.f3.params.toList, tidyT Try.prog 16 t = true ∧ Try.prog.readableRec t = true ∧ t < Try.prog.types.size := by
  rw [Try.params3]
  intro t ht
  simp only [List.mem_cons, List.not_mem_nil, or_false] at ht
  rcases ht with rfl | rfl | rfl | rfl
  · exact ⟨by kernel_rfl, by kernel_rfl, of_decide_eq_true (by kernel_rfl)⟩
  · exact ⟨by kernel_rfl, by kernel_rfl, of_decide_eq_true (by kernel_rfl)⟩
  · exact ⟨by kernel_rfl, by kernel_rfl, of_decide_eq_true (by kernel_rfl)⟩
  · exact ⟨by kernel_rfl, by kernel_rfl, of_decide_eq_true (by kernel_rfl)⟩

theorem shape {H : Type} (ds : List (DataW H)) (h : ds.length = Try.f3.params.toList.length) : Rows.vectorMakesSpec.fn H (ds ++ []) = { results := [.lit (.bool true)], args := ds } := by
  rw [Try.params3] at h
  match ds, h with
  | [d0, d1, d2, d3], _ => rfl


theorem lifted (os : Os) (started : os.Started) (H : Type) (enc : TypeId × Value → H) (F : Stop.Interp) :
    ReturnsInHanded {} Try.checked os 3 .any ((Rows.OpenSpec.upto Rows.vectorMakesSpec).pre6 enc Try.prog Try.f3 Rows.vectorMakesUptoRow.domain false) (((Rows.OpenSpec.upto Rows.vectorMakesSpec).at F).post enc Try.prog Try.f3 false true false false) := by
  refine returnsInHanded_of_cond (C := Try.checked) (s := Rows.OpenSpec.upto Rows.vectorMakesSpec) (k := Rows.uptoSmall) rfl own started (by kernel_rfl) Try.func3
    (OpenSpec.witness (enc := enc) (C := Try.checked) (s := Rows.OpenSpec.upto Rows.vectorMakesSpec) (k := Rows.uptoSmall) rfl false ⟨#[], #[.slice none 0 0, .int .i64 0, .int .i64 0, .agg #[.int .u64 0, .int .u64 0]], []⟩ 8 (by kernel_rfl) (by kernel_rfl) (by kernel_rfl)
      (x := ([.nil, .lit (.int .i64 0), .lit (.int .i64 0), .agg [.lit (.int .u64 0), .lit (.int .u64 0)]], [], [])) (by kernel_rfl) rfl (by kernel_rfl)) ?_
  intro W base args ds gs before hval hW _ hk _
  have hgs : gs = [] := by
    obtain ⟨_, _, _, hV, _⟩ := hW
    exact (trodVars_none hV).1
  refine law_contract (s := ((Rows.OpenSpec.upto Rows.vectorMakesSpec).at F)) (Checked.mixed Try.checked) T_ok laidOut rfl shape rfl Try.underlying4 readable bounds law hval hW (fun d hd => small hk d (by simp [hd]))

theorem over : Rows.vectorMakesUptoRow.holds Try.pinned (Rows.OpenSpec.upto Rows.vectorMakesSpec) :=
  OpenClaim.holds_of_cond 3 Try.f3 rfl rfl rfl rfl rfl rfl rfl ⟨rfl, rfl, rfl, rfl, rfl⟩ rfl rfl rfl rfl rfl (by kernel_rfl) Try.func3 (by kernel_rfl)
    (of_decide_eq_true (by kernel_rfl)) (by unfold Func.isWrapper; first | (rw [if_pos (by decide +kernel)]; kernel_rfl) | (rw [if_neg (by decide +kernel)]; exact ⟨rfl, rfl⟩))
    (fun os started H enc _ F => lifted os started H enc F)

theorem proved : Rows.VectorMakesUptoSaid := over
#print axioms proved
end Go.Proofs.Ytbkbnhpadkkcaaa.vectorMakes
