/-
  VectorVoices returns true and leaves its arguments as they were, for arguments that together hold at most 1048576 values and letters.
-/
import Derived.Test.YtbkbnhpadkkcaaaVL5
import Derived.Test.YtbkbnhpadkkcaaaVGive3
namespace Go.Proofs.Ytbkbnhpadkkcaaa.vectorVoices
open Go.Ax Go.ChangeShapes Go.WideShapes Go.ChangeAt Go.RowKit
set_option maxRecDepth 100000

theorem law (vs : List AV) (h : ArgsOf Try.prog 1048576 16 Try.f5.params.toList vs) : ∃ n d H', runFn T n d 5 vs [] = some (.dat (.bool true), H') := by
  rw [Try.params5] at h
  cases h with
  | cons h0 h =>
    cases h with
    | cons h1 h =>
      cases h with
      | cons h2 h =>
        cases h
        obtain ⟨l, rfl, hl, hv⟩ := cells_voices h0
        obtain ⟨v, rfl, hvl⟩ := cells_vec h1
        obtain ⟨m, hm, hml, _⟩ := cells_voice h2
        obtain ⟨H', hH⟩ := law5 l v m (fun m h => (hv m h).1) hl (fun m h => (hv m h).2) hvl hml
        refine ⟨2000001, 9, H', ?_⟩
        rw [elem_voices, elem_vec, elem_voice, ← hm]
        exact hH

theorem readable : ∀ t ∈ Try.f5.params.toList, tidyT Try.prog 16 t = true ∧ Try.prog.readableRec t = true ∧ t < Try.prog.types.size := by
  rw [Try.params5]
  intro t ht
  simp only [List.mem_cons, List.not_mem_nil, or_false] at ht
  rcases ht with rfl | rfl | rfl
  · exact ⟨by kernel_rfl, by kernel_rfl, of_decide_eq_true (by kernel_rfl)⟩
  · exact ⟨by kernel_rfl, by kernel_rfl, of_decide_eq_true (by kernel_rfl)⟩
  · exact ⟨by kernel_rfl, by kernel_rfl, of_decide_eq_true (by kernel_rfl)⟩

theorem shape {H : Type} (ds : List (DataW H)) (h : ds.length = Try.f5.params.toList.length) : Rows.vectorVoicesSpec.fn H (ds ++ []) = { results := [.lit (.bool true)], args := ds } := by
  rw [Try.params5] at h
  match ds, h with
  | [d0, d1, d2], _ => rfl

theorem lifted (os : Os) (started : os.Started) (H : Type) (enc : TypeId × Value → H) (F : Stop.Interp) :
    ReturnsInHanded {} Try.checked os 5 .any ((Rows.OpenSpec.upto Rows.vectorVoicesSpec).pre6 enc Try.prog Try.f5 Rows.vectorVoicesUptoRow.domain false) (((Rows.OpenSpec.upto Rows.vectorVoicesSpec).at F).post enc Try.prog Try.f5 false true false false) := by
  refine returnsInHanded_of_cond (C := Try.checked) (s := Rows.OpenSpec.upto Rows.vectorVoicesSpec) (k := Rows.uptoSmall) rfl own started (by kernel_rfl) Try.func5
    (OpenSpec.witness (enc := enc) (C := Try.checked) (s := Rows.OpenSpec.upto Rows.vectorVoicesSpec) (k := Rows.uptoSmall) rfl false ⟨#[], #[.slice none 0 0, .slice none 0 0, .agg #[.int .i64 0, .slice none 0 0]], []⟩ 8 (by kernel_rfl) (by kernel_rfl) (by kernel_rfl)
      (x := ([.nil, .nil, .agg [.lit (.int .i64 0), .nil]], [], [])) (by kernel_rfl) rfl (by kernel_rfl)) ?_
  intro W base args ds gs before hval hW _ hk _
  have hgs : gs = [] := by
    obtain ⟨_, _, _, hV, _⟩ := hW
    exact (trodVars_none hV).1
  refine law_contract (s := ((Rows.OpenSpec.upto Rows.vectorVoicesSpec).at F)) (Checked.mixed Try.checked) T_ok laidOut rfl shape rfl Try.underlying4 readable bounds law hval hW (fun d hd => small hk d (by simp [hd]))

theorem over : Rows.vectorVoicesUptoRow.holds Try.pinned (Rows.OpenSpec.upto Rows.vectorVoicesSpec) :=
  OpenClaim.holds_of_cond 5 Try.f5 rfl rfl rfl rfl rfl rfl rfl ⟨rfl, rfl, rfl, rfl, rfl⟩ rfl rfl rfl rfl rfl (by kernel_rfl) Try.func5 (by kernel_rfl)
    (of_decide_eq_true (by kernel_rfl)) (by unfold Func.isWrapper; first | (rw [if_pos (by decide +kernel)]; kernel_rfl) | (rw [if_neg (by decide +kernel)]; exact ⟨rfl, rfl⟩))
    (fun os started H enc _ F => lifted os started H enc F)

theorem proved : Rows.VectorVoicesUptoSaid := over
#print axioms proved
end Go.Proofs.Ytbkbnhpadkkcaaa.vectorVoices
