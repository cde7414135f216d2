/-
  The functions of this seat whose contracts are proved by hand.
-/
import Derived.Test.YtfoglingdnhjpaaGreatDoorXFc
import Derived.Test.YtfoglingdnhjpaaGreatDoorOC
import Derived.Test.YtfoglingdnhjpaaGreatDoorXNat
import Derived.Test.YtfoglingdnhjpaaGreatDoorXSpec
import Derived.Test.YtfoglingdnhjpaaGreatDoorChecked
namespace Go.Ax
set_option linter.all false
open Go.RowKit Go.Proofs
set_option maxRecDepth 100000
theorem cl_nil_slices_Clone_Entry_Entry (w : World) (c : Nat) : Calls Tryz.prog 140 #[.slice none 0 c] w fun e w' => (∃ b, e = .returned (.slice b 0 0)) ∧ Below w.heap.size w w' := by
 have hq := fun w b n c => run_binnil (P := Tryz.prog) (w := w) 28 _ Tryz.underlying28 b n c
 go_enter Tryz.func140, Tryz.ntmps140
 go_wp2
 go_ret
 exact ⟨⟨_, rfl⟩, Below.refl _ _⟩
theorem cl_emp_slices_Clone_Entry_Entry (w : World) (ad : Addr) (c : Nat) : Calls Tryz.prog 140 #[.slice (some ad) 0 c] w fun e w' => (∃ b, e = .returned (.slice b 0 0)) ∧ Below w.heap.size w w' := by
 have hq := fun w b n c => run_binnil (P := Tryz.prog) (w := w) 28 _ Tryz.underlying28 b n c
 go_enter Tryz.func140, Tryz.ntmps140
 go_wp2
 go_ret
 exact ⟨⟨_, rfl⟩, (Below.refl _ _).alloc (Nat.le_refl _) _⟩
def T_slices_Clone_Entry_Entry : Nat → Option XFunc
 | 140 => some xf_slices_Clone_Entry_Entry
 | _ => none
theorem TOk_slices_Clone_Entry_Entry : ∀ g xf, T_slices_Clone_Entry_Entry g = some xf → FOk Tryz.prog g xf := by
 intro g xf h
 unfold T_slices_Clone_Entry_Entry at h
 split at h
 ·cases h; exact .inl ⟨rfl, rfl, r_slices_Clone_Entry_Entry⟩
 ·cases h
theorem nv_slices_Clone_Entry_Entry : NvOk Tryz.prog 140 (cloneNv 50 5 false) := by
 refine clone_ok (Checked.mixed Tryz.checked) TOk_slices_Clone_Entry_Entry (fun fl x xs h => ?_) (cl_nil_slices_Clone_Entry_Entry) (cl_emp_slices_Clone_Entry_Entry) ⟨_, Tryz.func140, by kernel_rfl, by kernel_rfl⟩
 have h1 : xs.length + 1 ≤ LIM := by simpa using h
 rw [runFn_succ]
 simp [T_slices_Clone_Entry_Entry, xf_slices_Clone_Entry_Entry, cloneNv, h1]
theorem cl_nil_slices_Clone_Vector_Draw (w : World) (c : Nat) : Calls Tryz.prog 141 #[.slice none 0 c] w fun e w' => (∃ b, e = .returned (.slice b 0 0)) ∧ Below w.heap.size w w' := by
 have hq := fun w b n c => run_binnil (P := Tryz.prog) (w := w) 30 _ Tryz.underlying30 b n c
 go_enter Tryz.func141, Tryz.ntmps141
 go_wp2
 go_ret
 exact ⟨⟨_, rfl⟩, Below.refl _ _⟩
theorem cl_emp_slices_Clone_Vector_Draw (w : World) (ad : Addr) (c : Nat) : Calls Tryz.prog 141 #[.slice (some ad) 0 c] w fun e w' => (∃ b, e = .returned (.slice b 0 0)) ∧ Below w.heap.size w w' := by
 have hq := fun w b n c => run_binnil (P := Tryz.prog) (w := w) 30 _ Tryz.underlying30 b n c
 go_enter Tryz.func141, Tryz.ntmps141
 go_wp2
 go_ret
 exact ⟨⟨_, rfl⟩, (Below.refl _ _).alloc (Nat.le_refl _) _⟩
def T_slices_Clone_Vector_Draw : Nat → Option XFunc
 | 141 => some xf_slices_Clone_Vector_Draw
 | _ => none
theorem TOk_slices_Clone_Vector_Draw : ∀ g xf, T_slices_Clone_Vector_Draw g = some xf → FOk Tryz.prog g xf := by
 intro g xf h
 unfold T_slices_Clone_Vector_Draw at h
 split at h
 ·cases h; exact .inl ⟨rfl, rfl, r_slices_Clone_Vector_Draw⟩
 ·cases h
theorem nv_slices_Clone_Vector_Draw : NvOk Tryz.prog 141 (cloneNv 26 2 false) := by
 refine clone_ok (Checked.mixed Tryz.checked) TOk_slices_Clone_Vector_Draw (fun fl x xs h => ?_) (cl_nil_slices_Clone_Vector_Draw) (cl_emp_slices_Clone_Vector_Draw) ⟨_, Tryz.func141, by kernel_rfl, by kernel_rfl⟩
 have h1 : xs.length + 1 ≤ LIM := by simpa using h
 rw [runFn_succ]
 simp [T_slices_Clone_Vector_Draw, xf_slices_Clone_Vector_Draw, cloneNv, h1]
theorem cl_nil_slices_Clone_Ack_Ack (w : World) (c : Nat) : Calls Tryz.prog 142 #[.slice none 0 c] w fun e w' => (∃ b, e = .returned (.slice b 0 0)) ∧ Below w.heap.size w w' := by
 have hq := fun w b n c => run_binnil (P := Tryz.prog) (w := w) 31 _ Tryz.underlying31 b n c
 go_enter Tryz.func142, Tryz.ntmps142
 go_wp2
 go_ret
 exact ⟨⟨_, rfl⟩, Below.refl _ _⟩
theorem cl_emp_slices_Clone_Ack_Ack (w : World) (ad : Addr) (c : Nat) : Calls Tryz.prog 142 #[.slice (some ad) 0 c] w fun e w' => (∃ b, e = .returned (.slice b 0 0)) ∧ Below w.heap.size w w' := by
 have hq := fun w b n c => run_binnil (P := Tryz.prog) (w := w) 31 _ Tryz.underlying31 b n c
 go_enter Tryz.func142, Tryz.ntmps142
 go_wp2
 go_ret
 exact ⟨⟨_, rfl⟩, (Below.refl _ _).alloc (Nat.le_refl _) _⟩
def T_slices_Clone_Ack_Ack : Nat → Option XFunc
 | 142 => some xf_slices_Clone_Ack_Ack
 | _ => none
theorem TOk_slices_Clone_Ack_Ack : ∀ g xf, T_slices_Clone_Ack_Ack g = some xf → FOk Tryz.prog g xf := by
 intro g xf h
 unfold T_slices_Clone_Ack_Ack at h
 split at h
 ·cases h; exact .inl ⟨rfl, rfl, r_slices_Clone_Ack_Ack⟩
 ·cases h
theorem nv_slices_Clone_Ack_Ack : NvOk Tryz.prog 142 (cloneNv 123 4 false) := by
 refine clone_ok (Checked.mixed Tryz.checked) TOk_slices_Clone_Ack_Ack (fun fl x xs h => ?_) (cl_nil_slices_Clone_Ack_Ack) (cl_emp_slices_Clone_Ack_Ack) ⟨_, Tryz.func142, by kernel_rfl, by kernel_rfl⟩
 have h1 : xs.length + 1 ≤ LIM := by simpa using h
 rw [runFn_succ]
 simp [T_slices_Clone_Ack_Ack, xf_slices_Clone_Ack_Ack, cloneNv, h1]
theorem cl_nil_slices_Clone_Mark_Mark (w : World) (c : Nat) : Calls Tryz.prog 143 #[.slice none 0 c] w fun e w' => (∃ b, e = .returned (.slice b 0 0)) ∧ Below w.heap.size w w' := by
 have hq := fun w b n c => run_binnil (P := Tryz.prog) (w := w) 32 _ Tryz.underlying32 b n c
 go_enter Tryz.func143, Tryz.ntmps143
 go_wp2
 go_ret
 exact ⟨⟨_, rfl⟩, Below.refl _ _⟩
theorem cl_emp_slices_Clone_Mark_Mark (w : World) (ad : Addr) (c : Nat) : Calls Tryz.prog 143 #[.slice (some ad) 0 c] w fun e w' => (∃ b, e = .returned (.slice b 0 0)) ∧ Below w.heap.size w w' := by
 have hq := fun w b n c => run_binnil (P := Tryz.prog) (w := w) 32 _ Tryz.underlying32 b n c
 go_enter Tryz.func143, Tryz.ntmps143
 go_wp2
 go_ret
 exact ⟨⟨_, rfl⟩, (Below.refl _ _).alloc (Nat.le_refl _) _⟩
def T_slices_Clone_Mark_Mark : Nat → Option XFunc
 | 143 => some xf_slices_Clone_Mark_Mark
 | _ => none
theorem TOk_slices_Clone_Mark_Mark : ∀ g xf, T_slices_Clone_Mark_Mark g = some xf → FOk Tryz.prog g xf := by
 intro g xf h
 unfold T_slices_Clone_Mark_Mark at h
 split at h
 ·cases h; exact .inl ⟨rfl, rfl, r_slices_Clone_Mark_Mark⟩
 ·cases h
theorem nv_slices_Clone_Mark_Mark : NvOk Tryz.prog 143 (cloneNv 125 3 false) := by
 refine clone_ok (Checked.mixed Tryz.checked) TOk_slices_Clone_Mark_Mark (fun fl x xs h => ?_) (cl_nil_slices_Clone_Mark_Mark) (cl_emp_slices_Clone_Mark_Mark) ⟨_, Tryz.func143, by kernel_rfl, by kernel_rfl⟩
 have h1 : xs.length + 1 ≤ LIM := by simpa using h
 rw [runFn_succ]
 simp [T_slices_Clone_Mark_Mark, xf_slices_Clone_Mark_Mark, cloneNv, h1]
theorem cl_nil_slices_Clone_Ballot_Ballot (w : World) (c : Nat) : Calls Tryz.prog 144 #[.slice none 0 c] w fun e w' => (∃ b, e = .returned (.slice b 0 0)) ∧ Below w.heap.size w w' := by
 have hq := fun w b n c => run_binnil (P := Tryz.prog) (w := w) 33 _ Tryz.underlying33 b n c
 go_enter Tryz.func144, Tryz.ntmps144
 go_wp2
 go_ret
 exact ⟨⟨_, rfl⟩, Below.refl _ _⟩
theorem cl_emp_slices_Clone_Ballot_Ballot (w : World) (ad : Addr) (c : Nat) : Calls Tryz.prog 144 #[.slice (some ad) 0 c] w fun e w' => (∃ b, e = .returned (.slice b 0 0)) ∧ Below w.heap.size w w' := by
 have hq := fun w b n c => run_binnil (P := Tryz.prog) (w := w) 33 _ Tryz.underlying33 b n c
 go_enter Tryz.func144, Tryz.ntmps144
 go_wp2
 go_ret
 exact ⟨⟨_, rfl⟩, (Below.refl _ _).alloc (Nat.le_refl _) _⟩
def T_slices_Clone_Ballot_Ballot : Nat → Option XFunc
 | 144 => some xf_slices_Clone_Ballot_Ballot
 | _ => none
theorem TOk_slices_Clone_Ballot_Ballot : ∀ g xf, T_slices_Clone_Ballot_Ballot g = some xf → FOk Tryz.prog g xf := by
 intro g xf h
 unfold T_slices_Clone_Ballot_Ballot at h
 split at h
 ·cases h; exact .inl ⟨rfl, rfl, r_slices_Clone_Ballot_Ballot⟩
 ·cases h
theorem nv_slices_Clone_Ballot_Ballot : NvOk Tryz.prog 144 (cloneNv 98 6 true) := by
 refine clone_ok (Checked.mixed Tryz.checked) TOk_slices_Clone_Ballot_Ballot (fun fl x xs h => ?_) (cl_nil_slices_Clone_Ballot_Ballot) (cl_emp_slices_Clone_Ballot_Ballot) ⟨_, Tryz.func144, by kernel_rfl, by kernel_rfl⟩
 have h1 : xs.length + 1 ≤ LIM := by simpa using h
 rw [runFn_succ]
 simp [T_slices_Clone_Ballot_Ballot, xf_slices_Clone_Ballot_Ballot, cloneNv, h1]
theorem cl_nil_slices_Clone_Answer_Answer (w : World) (c : Nat) : Calls Tryz.prog 145 #[.slice none 0 c] w fun e w' => (∃ b, e = .returned (.slice b 0 0)) ∧ Below w.heap.size w w' := by
 have hq := fun w b n c => run_binnil (P := Tryz.prog) (w := w) 34 _ Tryz.underlying34 b n c
 go_enter Tryz.func145, Tryz.ntmps145
 go_wp2
 go_ret
 exact ⟨⟨_, rfl⟩, Below.refl _ _⟩
theorem cl_emp_slices_Clone_Answer_Answer (w : World) (ad : Addr) (c : Nat) : Calls Tryz.prog 145 #[.slice (some ad) 0 c] w fun e w' => (∃ b, e = .returned (.slice b 0 0)) ∧ Below w.heap.size w w' := by
 have hq := fun w b n c => run_binnil (P := Tryz.prog) (w := w) 34 _ Tryz.underlying34 b n c
 go_enter Tryz.func145, Tryz.ntmps145
 go_wp2
 go_ret
 exact ⟨⟨_, rfl⟩, (Below.refl _ _).alloc (Nat.le_refl _) _⟩
def T_slices_Clone_Answer_Answer : Nat → Option XFunc
 | 145 => some xf_slices_Clone_Answer_Answer
 | _ => none
theorem TOk_slices_Clone_Answer_Answer : ∀ g xf, T_slices_Clone_Answer_Answer g = some xf → FOk Tryz.prog g xf := by
 intro g xf h
 unfold T_slices_Clone_Answer_Answer at h
 split at h
 ·cases h; exact .inl ⟨rfl, rfl, r_slices_Clone_Answer_Answer⟩
 ·cases h
theorem nv_slices_Clone_Answer_Answer : NvOk Tryz.prog 145 (cloneNv 100 6 true) := by
 refine clone_ok (Checked.mixed Tryz.checked) TOk_slices_Clone_Answer_Answer (fun fl x xs h => ?_) (cl_nil_slices_Clone_Answer_Answer) (cl_emp_slices_Clone_Answer_Answer) ⟨_, Tryz.func145, by kernel_rfl, by kernel_rfl⟩
 have h1 : xs.length + 1 ≤ LIM := by simpa using h
 rw [runFn_succ]
 simp [T_slices_Clone_Answer_Answer, xf_slices_Clone_Answer_Answer, cloneNv, h1]
theorem rd_log {F : Nat → Prop} {w : World} {v : Value} {fl : Bool} {l : List Ent} (h : RD F w v (.sl 5 fl (l.map encE))) : RD F w v (encLog l) := by
 generalize hd : Dat.sl 5 fl (l.map encE) = d at h
 cases h <;> first | (cases hd; done) | skip
 ·rename_i a cap sz fl hn
  injection hd with h1 h2 h3
  have : l = [] := by simpa using h3
  subst this
  exact .sl0 a cap _ _ hn
 ·rename_i ad cap sz fl xs vs hne hF hcap hs hfl hv hr
  injection hd with h1 h2 h3
  subst h1 h3
  refine .sl ad cap 5 true (l.map encE) vs hne hF hcap hs (fun _ x hx => ?_) hv hr
  obtain ⟨e, _, rfl⟩ := List.mem_map.1 hx
  rfl
theorem nv_oplog_Check : NvOk Tryz.prog 123 checkNv := by
 refine ⟨⟨_, Tryz.func123, by kernel_rfl, by kernel_rfl⟩, fun args r H' h C w vs hR hH hD _ => ?_⟩
 unfold checkNv at h
 split at h <;> first | (cases h; done) | skip
 rename_i fl xs room
 split at h <;> first | (cases h; done) | skip
 rename_i l hl
 split at h <;> first | (cases h; done) | skip
 rename_i hlen
 simp only [Option.some.injEq, Prod.mk.injEq] at h
 obtain ⟨rfl, rfl⟩ := h
 rw [decEs_some hl] at hR
 obtain ⟨h0, h1⟩ := hR
 match vs, h0 with
 | [v0, v1], _ =>
  have r0 := h1 0 v0 _ rfl rfl
  have r1 := h1 1 v1 _ rfl rfl
  cases r1 with
  | dat r1 => cases r1 with
   | int =>
    cases r0 with
    | dat r0 =>
     refine (check_calls l room hlen (rd_log r0) ⟨hH, hD⟩).mono fun e w' hp => ?_
     obtain ⟨rfl, hb⟩ := hp
     refine ⟨_, C, rfl, .tup _ _ rfl fun j c v hc hv => ?_, local_below hH hD hb⟩
     match j with
     | 0 => simp at hc hv; subst hc hv; exact .dat (.int _ _)
     | 1 => simp at hc hv; subst hc hv; exact .dat (.int _ _)
     | j + 2 => simp at hc
end Go.Ax
