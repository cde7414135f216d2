/-
  VectorTogether returns true and leaves its arguments as they were, for arguments that together hold at most 1048576 values and letters.
-/
import Derived.Test.YtbkbnhpadkkcaaaVL6
import Derived.Test.YtbkbnhpadkkcaaaVGive3
namespace Go.Proofs.Ytbkbnhpadkkcaaa.vectorTogether
open Go.Ax Go.ChangeShapes Go.WideShapes Go.ChangeAt Go.RowKit
set_option maxRecDepth 100000

theorem law (vs : List AV) (h : ArgsOf Try.prog 1048576 16 Try.f6.params.toList vs) : ∃ n d H', runFn T n d 6 vs [] = some (.dat (.bool true), H') := by
  rw [Try.params6] at h
  cases h with
  | cons h0 h =>
    cases h with
    | cons h1 h =>
      cases h
      obtain ⟨l, rfl, hl, hv⟩ := cells_voices h0
      obtain ⟨bs, rfl, hb⟩ := cells_bools h1
      obtain ⟨H', hH⟩ := law6 l bs hl (fun m h => (hv m h).2)
      refine ⟨2000001, 9, H', ?_⟩
      rw [elem_voices, elem_bools]
      exact hH

theorem readable : ∀ t ∈ Try.f6.params.toList, tidyT Try.prog 16 t = true ∧ Try.prog.readableRec t = true ∧ t < Try.prog.types.size := by
  rw [Try.params6]
  intro t ht
  simp only [List.mem_cons, List.not_mem_nil, or_false] at ht
  rcases ht with rfl | rfl
  · exact ⟨by kernel_rfl, by kernel_rfl, of_decide_eq_true (by kernel_rfl)⟩
  · exact ⟨by kernel_rfl, by kernel_rfl, of_decide_eq_true (by kernel_rfl)⟩

theorem shape {H : Type} (ds : List (DataW H)) (h : ds.length = Try.f6.params.toList.length) : Rows.vectorTogetherSpec.fn H (ds ++ []) = { results := [.lit (.bool true)], args := ds } := by
  rw [Try.params6] at h
  match ds, h with
  | [d0, d1], _ => rfl

theorem lifted (os : Os) (started : os.Started) (H : Type) (enc : TypeId × Value → H) (F : Stop.Interp) :
    ReturnsInHanded {} Try.checked os 6 .any ((Rows.OpenSpec.upto Rows.vectorTogetherSpec).pre6 enc Try.prog Try.f6 Rows.vectorTogetherUptoRow.domain false) (((Rows.OpenSpec.upto Rows.vectorTogetherSpec).at F).post enc Try.prog Try.f6 false true false false) := by
  refine returnsInHanded_of_cond (C := Try.checked) (s := Rows.OpenSpec.upto Rows.vectorTogetherSpec) (k := Rows.uptoSmall) rfl own started (by kernel_rfl) Try.func6
    (OpenSpec.witness (enc := enc) (C := Try.checked) (s := Rows.OpenSpec.upto Rows.vectorTogetherSpec) (k := Rows.uptoSmall) rfl false ⟨#[], #[.slice none 0 0, .slice none 0 0], []⟩ 8 (by kernel_rfl) (by kernel_rfl) (by kernel_rfl)
      (x := ([.nil, .nil], [], [])) (by kernel_rfl) rfl (by kernel_rfl)) ?_
  intro W base args ds gs before hval hW _ hk _
  have hgs : gs = [] := by
    obtain ⟨_, _, _, hV, _⟩ := hW
    exact (trodVars_none hV).1
  refine law_contract (s := ((Rows.OpenSpec.upto Rows.vectorTogetherSpec).at F)) (Checked.mixed Try.checked) T_ok laidOut rfl shape rfl Try.underlying4 readable bounds law hval hW (fun d hd => small hk d (by simp [hd]))

theorem over : Rows.vectorTogetherUptoRow.holds Try.pinned (Rows.OpenSpec.upto Rows.vectorTogetherSpec) :=
  OpenClaim.holds_of_cond 6 Try.f6 rfl rfl rfl rfl rfl rfl rfl ⟨rfl, rfl, rfl, rfl, rfl⟩ rfl rfl rfl rfl rfl (by kernel_rfl) Try.func6 (by kernel_rfl)
    (of_decide_eq_true (by kernel_rfl)) (by unfold Func.isWrapper; first | (rw [if_pos (by decide +kernel)]; kernel_rfl) | (rw [if_neg (by decide +kernel)]; exact ⟨rfl, rfl⟩))
    (fun os started H enc _ F => lifted os started H enc F)

theorem proved : Rows.VectorTogetherUptoSaid := over
#print axioms proved
end Go.Proofs.Ytbkbnhpadkkcaaa.vectorTogether
