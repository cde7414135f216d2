/-
  The table of this seat's functions.
-/
import Derived.Test.YtponcchkfmbicaaXFs0
import Derived.Test.YtponcchkfmbicaaXFs1
import Derived.Test.YtponcchkfmbicaaXFs2
import Derived.Test.YtponcchkfmbicaaXFs3
import Derived.Test.YtponcchkfmbicaaXNv
namespace Go.Ax
open Go.Proofs

def xn_slices_Clone_Entry_Entry : XFunc := ⟨some (cloneNv 55 5 false), false, 0, [], .skip⟩
def xn_slices_Clone_Vector_Draw : XFunc := ⟨some (cloneNv 60 2 false), false, 0, [], .skip⟩
def xn_slices_Clone_Ack_Ack : XFunc := ⟨some (cloneNv 118 4 false), false, 0, [], .skip⟩
def xn_slices_Clone_Mark_Mark : XFunc := ⟨some (cloneNv 121 3 false), false, 0, [], .skip⟩
def xn_slices_Clone_Ballot_Ballot : XFunc := ⟨some (cloneNv 88 6 true), false, 0, [], .skip⟩
def xn_slices_Clone_Answer_Answer : XFunc := ⟨some (cloneNv 90 6 true), false, 0, [], .skip⟩
def xn_oplog_Check : XFunc := ⟨some (checkNv), false, 0, [], .skip⟩
def T : Nat → Option XFunc
  | 3 => some xf_law09_CoreWaits
  | 4 => some xf_law09_CoreSends
  | 5 => some xf_law09_CoreCarries
  | 6 => some xf_core_Wait
  | 7 => some xf_plain_Given_State
  | 8 => some xf_ref09_Wait
  | 9 => some xf_law09_num
  | 10 => some xf_plain_SameState
  | 11 => some xf_plain_Given_Intact
  | 12 => some xf_plain_Given_Msg
  | 13 => some xf_core_One
  | 14 => some xf_ref09_One
  | 15 => some xf_core_All
  | 16 => some xf_ref09_All
  | 17 => some xf_plain_SameMsg
  | 18 => some xf_plain_SameSends
  | 19 => some xf_core_Carry
  | 20 => some xf_ref09_Carry
  | 21 => some xf_core_Check
  | 22 => some xf_core_twin
  | 23 => some xf_core_leads
  | 24 => some xf_plain_CopyState
  | 25 => some xf_plain_Given_Entries
  | 26 => some xf_plain_Given_Vector
  | 27 => some xf_ref09_Check
  | 28 => some xf_ref09_Primary
  | 29 => some xf_plain_SameEntries
  | 30 => some xf_plain_SameVector
  | 31 => some xf_plain_sameAcks
  | 32 => some xf_plain_sameMarks
  | 33 => some xf_plain_SameBallots
  | 34 => some xf_plain_SameAnswers
  | 36 => some xf_plain_SameInts
  | 37 => some xf_core_Nodes
  | 38 => some xf_core_out
  | 39 => some xf_ref09_Nodes
  | 40 => some xf_ref09_stamped
  | 41 => some xf_client_Between
  | 42 => some xf_ref05_Between
  | 43 => some xf_core_CheckConfig
  | 44 => some xf_core_logged
  | 45 => some xf_core_voted
  | 46 => some xf_core_normal
  | 47 => some xf_core_changing
  | 48 => some xf_core_recovering
  | 49 => some xn_slices_Clone_Entry_Entry
  | 50 => some xn_slices_Clone_Vector_Draw
  | 51 => some xn_slices_Clone_Ack_Ack
  | 52 => some xn_slices_Clone_Mark_Mark
  | 53 => some xn_slices_Clone_Ballot_Ballot
  | 54 => some xn_slices_Clone_Answer_Answer
  | 55 => some xf_plain_CopyEntries
  | 56 => some xf_plain_CopyVector
  | 57 => some xf_ref09_CheckConfig
  | 58 => some xf_ref09_may
  | 59 => some xf_message_Between
  | 60 => some xf_plain_CopyMsg
  | 61 => some xf_ref07_Between
  | 63 => some xf_client_rows
  | 64 => some xf_ref05_Log
  | 65 => some xf_ref05_results
  | 66 => some xf_ref05_row
  | 67 => some xn_oplog_Check
  | 68 => some xf_core_voters
  | 69 => some xf_core_Primary
  | 70 => some xf_ref07_Config
  | 71 => some xf_ref09_logged
  | 72 => some xf_ref09_votes
  | 73 => some xf_ref09_recovering
  | 74 => some xf_client_entry
  | 75 => some xf_ledger_Check
  | 77 => some xf_ledger_Ledger_Do
  | 78 => some xf_ref05_Entry
  | 79 => some xf_ref04_Replay
  | 80 => some xf_oplog_Each
  | 82 => some xf_ref09_voters
  | 85 => some xf_ref04_Check
  | 86 => some xf_ref04_Do
  | 87 => some xf_oplog_joined
  | 88 => some xf_oplog_Each_1
  | 89 => some xf_ref04_Get
  | 90 => some xf_ref04_put
  | _ => none

theorem T_ok : ∀ f xf, T f = some xf → FOk Try.prog f xf := by
  intro f xf h
  unfold T at h
  split at h
  · cases h; exact .inl ⟨rfl, r_law09_CoreWaits⟩
  · cases h; exact .inl ⟨rfl, r_law09_CoreSends⟩
  · cases h; exact .inl ⟨rfl, r_law09_CoreCarries⟩
  · cases h; exact .inl ⟨rfl, r_core_Wait⟩
  · cases h; exact .inl ⟨rfl, r_plain_Given_State⟩
  · cases h; exact .inl ⟨rfl, r_ref09_Wait⟩
  · cases h; exact .inl ⟨rfl, r_law09_num⟩
  · cases h; exact .inl ⟨rfl, r_plain_SameState⟩
  · cases h; exact .inl ⟨rfl, r_plain_Given_Intact⟩
  · cases h; exact .inl ⟨rfl, r_plain_Given_Msg⟩
  · cases h; exact .inl ⟨rfl, r_core_One⟩
  · cases h; exact .inl ⟨rfl, r_ref09_One⟩
  · cases h; exact .inl ⟨rfl, r_core_All⟩
  · cases h; exact .inl ⟨rfl, r_ref09_All⟩
  · cases h; exact .inl ⟨rfl, r_plain_SameMsg⟩
  · cases h; exact .inl ⟨rfl, r_plain_SameSends⟩
  · cases h; exact .inl ⟨rfl, r_core_Carry⟩
  · cases h; exact .inl ⟨rfl, r_ref09_Carry⟩
  · cases h; exact .inl ⟨rfl, r_core_Check⟩
  · cases h; exact .inl ⟨rfl, r_core_twin⟩
  · cases h; exact .inl ⟨rfl, r_core_leads⟩
  · cases h; exact .inl ⟨rfl, r_plain_CopyState⟩
  · cases h; exact .inl ⟨rfl, r_plain_Given_Entries⟩
  · cases h; exact .inl ⟨rfl, r_plain_Given_Vector⟩
  · cases h; exact .inl ⟨rfl, r_ref09_Check⟩
  · cases h; exact .inl ⟨rfl, r_ref09_Primary⟩
  · cases h; exact .inl ⟨rfl, r_plain_SameEntries⟩
  · cases h; exact .inl ⟨rfl, r_plain_SameVector⟩
  · cases h; exact .inl ⟨rfl, r_plain_sameAcks⟩
  · cases h; exact .inl ⟨rfl, r_plain_sameMarks⟩
  · cases h; exact .inl ⟨rfl, r_plain_SameBallots⟩
  · cases h; exact .inl ⟨rfl, r_plain_SameAnswers⟩
  · cases h; exact .inl ⟨rfl, r_plain_SameInts⟩
  · cases h; exact .inl ⟨rfl, r_core_Nodes⟩
  · cases h; exact .inl ⟨rfl, r_core_out⟩
  · cases h; exact .inl ⟨rfl, r_ref09_Nodes⟩
  · cases h; exact .inl ⟨rfl, r_ref09_stamped⟩
  · cases h; exact .inl ⟨rfl, r_client_Between⟩
  · cases h; exact .inl ⟨rfl, r_ref05_Between⟩
  · cases h; exact .inl ⟨rfl, r_core_CheckConfig⟩
  · cases h; exact .inl ⟨rfl, r_core_logged⟩
  · cases h; exact .inl ⟨rfl, r_core_voted⟩
  · cases h; exact .inl ⟨rfl, r_core_normal⟩
  · cases h; exact .inl ⟨rfl, r_core_changing⟩
  · cases h; exact .inl ⟨rfl, r_core_recovering⟩
  · cases h; exact .inr ⟨_, rfl, nv_slices_Clone_Entry_Entry⟩
  · cases h; exact .inr ⟨_, rfl, nv_slices_Clone_Vector_Draw⟩
  · cases h; exact .inr ⟨_, rfl, nv_slices_Clone_Ack_Ack⟩
  · cases h; exact .inr ⟨_, rfl, nv_slices_Clone_Mark_Mark⟩
  · cases h; exact .inr ⟨_, rfl, nv_slices_Clone_Ballot_Ballot⟩
  · cases h; exact .inr ⟨_, rfl, nv_slices_Clone_Answer_Answer⟩
  · cases h; exact .inl ⟨rfl, r_plain_CopyEntries⟩
  · cases h; exact .inl ⟨rfl, r_plain_CopyVector⟩
  · cases h; exact .inl ⟨rfl, r_ref09_CheckConfig⟩
  · cases h; exact .inl ⟨rfl, r_ref09_may⟩
  · cases h; exact .inl ⟨rfl, r_message_Between⟩
  · cases h; exact .inl ⟨rfl, r_plain_CopyMsg⟩
  · cases h; exact .inl ⟨rfl, r_ref07_Between⟩
  · cases h; exact .inl ⟨rfl, r_client_rows⟩
  · cases h; exact .inl ⟨rfl, r_ref05_Log⟩
  · cases h; exact .inl ⟨rfl, r_ref05_results⟩
  · cases h; exact .inl ⟨rfl, r_ref05_row⟩
  · cases h; exact .inr ⟨_, rfl, nv_oplog_Check⟩
  · cases h; exact .inl ⟨rfl, r_core_voters⟩
  · cases h; exact .inl ⟨rfl, r_core_Primary⟩
  · cases h; exact .inl ⟨rfl, r_ref07_Config⟩
  · cases h; exact .inl ⟨rfl, r_ref09_logged⟩
  · cases h; exact .inl ⟨rfl, r_ref09_votes⟩
  · cases h; exact .inl ⟨rfl, r_ref09_recovering⟩
  · cases h; exact .inl ⟨rfl, r_client_entry⟩
  · cases h; exact .inl ⟨rfl, r_ledger_Check⟩
  · cases h; exact .inl ⟨rfl, r_ledger_Ledger_Do⟩
  · cases h; exact .inl ⟨rfl, r_ref05_Entry⟩
  · cases h; exact .inl ⟨rfl, r_ref04_Replay⟩
  · cases h; exact .inl ⟨rfl, r_oplog_Each⟩
  · cases h; exact .inl ⟨rfl, r_ref09_voters⟩
  · cases h; exact .inl ⟨rfl, r_ref04_Check⟩
  · cases h; exact .inl ⟨rfl, r_ref04_Do⟩
  · cases h; exact .inl ⟨rfl, r_oplog_joined⟩
  · cases h; exact .inl ⟨rfl, r_oplog_Each_1⟩
  · cases h; exact .inl ⟨rfl, r_ref04_Get⟩
  · cases h; exact .inl ⟨rfl, r_ref04_put⟩
  · cases h

end Go.Ax
