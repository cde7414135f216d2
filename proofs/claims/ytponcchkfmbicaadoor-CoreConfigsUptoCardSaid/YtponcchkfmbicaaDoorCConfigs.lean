/-
  CoreConfigs returns true and leaves its arguments as they were, for arguments that together hold at most 1048576 values and letters.
-/
import Derived.Test.YtponcchkfmbicaaDoorS3
import Derived.Test.YtponcchkfmbicaaDoorGG
import Derived.Test.YtponcchkfmbicaaDoorCards
import Derived.Test.YtponcchkfmbicaaDoorTie
import Derived.SevenTiedAt
namespace Go.Proofs.YtponcchkfmbicaaDoor.coreConfigs
open Go.Ax Go.ChangeShapes Go.WideShapes Go.ChangeAt Go.RowKit
set_option linter.all false
set_option maxRecDepth 100000

theorem law (vs : List AV) (h : ArgsOf Tryd.prog 1048576 16 Tryd.f3.params.toList vs) : ∃ n d H', runFn T n d 3 vs [] = some (.dat (.bool true), H') := by
  rw [Tryd.params3] at h
  cases h with
  | cons h0 h =>
    cases h with
    | cons h1 h =>
      cases h with
      | cons h2 h =>
        cases h with
        | cons h3 h =>
          cases h
          obtain ⟨c, hc⟩ := cells_cfg h0
          obtain ⟨view, rfl⟩ := cells_int underlyingInt h1
          obtain ⟨self, rfl⟩ := cells_int underlyingInt h2
          obtain ⟨x, hx⟩ := cells_draw h3
          obtain ⟨H', hH⟩ := law_CoreConfigs (n := 2097158) (d := 0) c view self x (by omega)
          refine ⟨2097158, 0 + 10, H', ?_⟩
          rw [elem_Config, elem_int, elem_int, elem_Draw, ← hc, ← hx]
          exact hH

theorem readable : ∀ t ∈ Tryd.f3.params.toList, tidyT Tryd.prog 16 t = true ∧ Tryd.prog.readableRec t = true ∧ t < Tryd.prog.types.size := by
  rw [Tryd.params3]
  intro t ht
  simp only [List.mem_cons, List.not_mem_nil, or_false] at ht
  rcases ht with rfl | rfl | rfl | rfl
  · exact ⟨by kernel_rfl, by kernel_rfl, of_decide_eq_true (by kernel_rfl)⟩
  · exact ⟨by kernel_rfl, by kernel_rfl, of_decide_eq_true (by kernel_rfl)⟩
  · exact ⟨by kernel_rfl, by kernel_rfl, of_decide_eq_true (by kernel_rfl)⟩
  · exact ⟨by kernel_rfl, by kernel_rfl, of_decide_eq_true (by kernel_rfl)⟩

theorem shape {H : Type} (ds : List (DataW H)) (h : ds.length = Tryd.f3.params.toList.length) : Rows.coreConfigsSpec.fn H (ds ++ []) = { results := [.lit (.bool true)], args := ds } := by
  rw [Tryd.params3] at h
  match ds, h with
  | [d0, d1, d2, d3], _ => rfl

theorem lifted (os : Os) (started : os.Started) (H : Type) (enc : TypeId × Value → H) (F : Stop.Interp) :
    ReturnsInHanded {} Tryd.checked os 3 .any ((Rows.OpenSpec.upto Rows.coreConfigsSpec).preRow enc Tryd.prog Tryd.f3 Rows.coreConfigsUptoRow.domain false laidU) (((Rows.OpenSpec.upto Rows.coreConfigsSpec).at F).post enc Tryd.prog Tryd.f3 false true false false) := by
  have hrow : (Rows.OpenSpec.upto Rows.coreConfigsSpec).preRow enc Tryd.prog Tryd.f3 Rows.coreConfigsUptoRow.domain false laidU ((World.laidAll Tryd.prog os laidU).forCall (fun _ _ => 0) ⟨#[], #[.agg #[.int .i64 0, .int .i64 0, .int .i64 0, .bool false], .int .i64 0, .int .i64 0, .agg #[.int .u64 0, .int .u64 0]], []⟩).memory #[.agg #[.int .i64 0, .int .i64 0, .int .i64 0, .bool false], .int .i64 0, .int .i64 0, .agg #[.int .u64 0, .int .u64 0]] := by
    refine ⟨⟨(OpenSpec.pre_some (k := Rows.uptoSmall) rfl _ _ _ _).2 ⟨[.agg [.lit (.int .i64 0), .lit (.int .i64 0), .lit (.int .i64 0), .lit (.bool false)], .lit (.int .i64 0), .lit (.int .i64 0), .agg [.lit (.int .u64 0), .lit (.int .u64 0)]], [], [], DataW.Whole_of_whole (fuel := 8) (x := ([.agg [.lit (.int .i64 0), .lit (.int .i64 0), .lit (.int .i64 0), .lit (.bool false)], .lit (.int .i64 0), .lit (.int .i64 0), .agg [.lit (.int .u64 0), .lit (.int .u64 0)]], [], [])) (by kernel_rfl), rfl, by kernel_rfl⟩, met_start os _⟩, sizedMet_of_sizedB (fuel := 8) (by kernel_rfl)⟩
  refine returnsInHanded_of_row (C := Tryd.checked) (s := Rows.OpenSpec.upto Rows.coreConfigsSpec) own started (by kernel_rfl) Tryd.func3
    (witness_row_at (enc := enc) (C := Tryd.checked) (s := Rows.OpenSpec.upto Rows.coreConfigsSpec) false (World.laidAll Tryd.prog os laidU) #[.agg #[.int .i64 0, .int .i64 0, .int .i64 0, .bool false], .int .i64 0, .int .i64 0, .agg #[.int .u64 0, .int .u64 0]] (World.laidAll_os _ _ _) (by kernel_rfl) (by kernel_rfl) (by kernel_rfl) hrow) ?_
  intro W base args ds gs before hval hW _ hk _ hL _ _
  have hgs : gs = [] := by
    obtain ⟨_, _, _, hV, _⟩ := hW
    exact (trodVars_none hV).1
  have hk := hk _ rfl
  refine law_contract (s := ((Rows.OpenSpec.upto Rows.coreConfigsSpec).at F)) (Checked.mixed Tryd.checked) T_ok laidOut rfl shape rfl Tryd.underlying4 readable bounds law hval hW (fun d hd => small hk d (by simp [hd])) (met_G hL)

theorem over : Rows.coreConfigsUptoRow.holds Tryd.pinned (Rows.OpenSpec.upto Rows.coreConfigsSpec) :=
  OpenClaim.holds_of_cond 3 Tryd.f3 rfl rfl rfl rfl rfl rfl rfl ⟨rfl, rfl, rfl, rfl, rfl⟩ rfl rfl rfl rfl rfl (by kernel_rfl) Tryd.func3 (by kernel_rfl)
    (of_decide_eq_true (by kernel_rfl)) (by unfold Func.isWrapper; first | (rw [if_pos (by decide +kernel)]; kernel_rfl) | (rw [if_neg (by decide +kernel)]; exact ⟨rfl, rfl⟩))
    (fun os started H enc _ F => by rw [OpenClaim.pre_eq_preRow]; exact lifted os started H enc F)

theorem proved : Rows.CoreConfigsUptoCardSaid :=
  Claim7.holds_tied_plain_at .later [] [.data] true (true, "87108d870db0ee3f0bdde26199583b4eaf93c53754d5b27066eb1e417d4e1b58") false
    over (fun _ h => by cases h) (by kernel_rfl) (fun _ h => by cases h) coreConfigsUpto_row_tie rfl ⟨rfl, rfl⟩ (by kernel_rfl) rfl
    (fun f fn hf hfn => by
      obtain rfl : f = 3 := Option.some.inj ((show Tryd.prog.funcNamed "amnesia/amnesialaw09.CoreConfigs" = some 3 by kernel_rfl).symm.trans hf) |>.symm
      obtain rfl : fn = Tryd.f3 := (Option.some.inj (Tryd.func3.symm.trans hfn)).symm
      exact ⟨by kernel_rfl, fun j t ht => by
        rw [Tryd.params3] at ht
        have hm : t ∈ [23, 3, 3, 26] := by simpa using Array.mem_of_getElem? ht
        have hall : ([23, 3, 3, 26].all fun u => !Tryd.prog.wantsStandIn u) = true := by kernel_rfl
        exact (show Tryd.prog.wantsStandIn t = false by simpa using List.all_eq_true.1 hall t hm)⟩)
    (by kernel_rfl)
#print axioms proved
end Go.Proofs.YtponcchkfmbicaaDoor.coreConfigs
