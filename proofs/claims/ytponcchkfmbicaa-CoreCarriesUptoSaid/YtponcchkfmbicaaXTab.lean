/-
  The table of this seat's functions.
-/
import Derived.Test.YtponcchkfmbicaaXFs0
import Derived.Test.YtponcchkfmbicaaXFs1
import Derived.Test.YtponcchkfmbicaaXFs2
import Derived.Test.YtponcchkfmbicaaXFs3
import Derived.Test.YtponcchkfmbicaaXNv
namespace Go.Ax
open Go.Proofs

def xn_slices_Clone_Entry_Entry : XFunc := ⟨some (cloneNv 55 5 false), false, 0, [], .skip⟩
def xn_slices_Clone_Vector_Draw : XFunc := ⟨some (cloneNv 60 2 false), false, 0, [], .skip⟩
def xn_slices_Clone_Ack_Ack : XFunc := ⟨some (cloneNv 118 4 false), false, 0, [], .skip⟩
def xn_slices_Clone_Mark_Mark : XFunc := ⟨some (cloneNv 121 3 false), false, 0, [], .skip⟩
def xn_slices_Clone_Ballot_Ballot : XFunc := ⟨some (cloneNv 88 6 true), false, 0, [], .skip⟩
def xn_slices_Clone_Answer_Answer : XFunc := ⟨some (cloneNv 90 6 true), false, 0, [], .skip⟩
def xn_oplog_Check : XFunc := ⟨some (checkNv), false, 0, [], .skip⟩
def tbl : List (Nat × XFunc) := [(3, xf_law09_CoreWaits), (4, xf_law09_CoreSends), (5, xf_law09_CoreCarries), (6, xf_core_Wait), (7, xf_plain_Given_State), (8, xf_ref09_Wait), (9, xf_law09_num), (10, xf_plain_SameState), (11, xf_plain_Given_Intact), (12, xf_plain_Given_Msg), (13, xf_core_One), (14, xf_ref09_One), (15, xf_core_All), (16, xf_ref09_All), (17, xf_plain_SameMsg), (18, xf_plain_SameSends), (19, xf_core_Carry), (20, xf_ref09_Carry), (21, xf_core_Check), (22, xf_core_twin), (23, xf_core_leads), (24, xf_plain_CopyState), (25, xf_plain_Given_Entries), (26, xf_plain_Given_Vector), (27, xf_ref09_Check), (28, xf_ref09_Primary), (29, xf_plain_SameEntries), (30, xf_plain_SameVector), (31, xf_plain_sameAcks), (32, xf_plain_sameMarks), (33, xf_plain_SameBallots), (34, xf_plain_SameAnswers), (36, xf_plain_SameInts), (37, xf_core_Nodes), (38, xf_core_out), (39, xf_ref09_Nodes), (40, xf_ref09_stamped), (41, xf_client_Between), (42, xf_ref05_Between), (43, xf_core_CheckConfig), (44, xf_core_logged), (45, xf_core_voted), (46, xf_core_normal), (47, xf_core_changing), (48, xf_core_recovering), (49, xn_slices_Clone_Entry_Entry), (50, xn_slices_Clone_Vector_Draw), (51, xn_slices_Clone_Ack_Ack), (52, xn_slices_Clone_Mark_Mark), (53, xn_slices_Clone_Ballot_Ballot), (54, xn_slices_Clone_Answer_Answer), (55, xf_plain_CopyEntries), (56, xf_plain_CopyVector), (57, xf_ref09_CheckConfig), (58, xf_ref09_may), (59, xf_message_Between), (60, xf_plain_CopyMsg), (61, xf_ref07_Between), (62, xf_client_check), (63, xf_client_rows), (64, xf_ref05_Log), (65, xf_ref05_results), (66, xf_ref05_row), (67, xn_oplog_Check), (68, xf_core_voters), (69, xf_core_Primary), (70, xf_ref07_Config), (71, xf_ref09_logged), (72, xf_ref09_votes), (73, xf_ref09_recovering), (74, xf_client_entry), (75, xf_ledger_Check), (76, xf_ledger_New), (77, xf_ledger_Ledger_Do), (78, xf_ref05_Entry), (79, xf_ref04_Replay), (80, xf_oplog_Each), (81, xf_oplog_fits), (82, xf_ref09_voters), (83, xf_ledger_Ledger_Would), (84, xf_ledger_Ledger_put), (85, xf_ref04_Check), (86, xf_ref04_Do), (87, xf_oplog_joined), (88, xf_oplog_Each_1), (89, xf_ref04_Get), (90, xf_ref04_put)]
def T (f : Nat) : Option XFunc := lookT tbl f
@[simp] theorem T_3 : lookT tbl 3 = some xf_law09_CoreWaits := by kernel_rfl
@[simp] theorem T_4 : lookT tbl 4 = some xf_law09_CoreSends := by kernel_rfl
@[simp] theorem T_5 : lookT tbl 5 = some xf_law09_CoreCarries := by kernel_rfl
@[simp] theorem T_6 : lookT tbl 6 = some xf_core_Wait := by kernel_rfl
@[simp] theorem T_7 : lookT tbl 7 = some xf_plain_Given_State := by kernel_rfl
@[simp] theorem T_8 : lookT tbl 8 = some xf_ref09_Wait := by kernel_rfl
@[simp] theorem T_9 : lookT tbl 9 = some xf_law09_num := by kernel_rfl
@[simp] theorem T_10 : lookT tbl 10 = some xf_plain_SameState := by kernel_rfl
@[simp] theorem T_11 : lookT tbl 11 = some xf_plain_Given_Intact := by kernel_rfl
@[simp] theorem T_12 : lookT tbl 12 = some xf_plain_Given_Msg := by kernel_rfl
@[simp] theorem T_13 : lookT tbl 13 = some xf_core_One := by kernel_rfl
@[simp] theorem T_14 : lookT tbl 14 = some xf_ref09_One := by kernel_rfl
@[simp] theorem T_15 : lookT tbl 15 = some xf_core_All := by kernel_rfl
@[simp] theorem T_16 : lookT tbl 16 = some xf_ref09_All := by kernel_rfl
@[simp] theorem T_17 : lookT tbl 17 = some xf_plain_SameMsg := by kernel_rfl
@[simp] theorem T_18 : lookT tbl 18 = some xf_plain_SameSends := by kernel_rfl
@[simp] theorem T_19 : lookT tbl 19 = some xf_core_Carry := by kernel_rfl
@[simp] theorem T_20 : lookT tbl 20 = some xf_ref09_Carry := by kernel_rfl
@[simp] theorem T_21 : lookT tbl 21 = some xf_core_Check := by kernel_rfl
@[simp] theorem T_22 : lookT tbl 22 = some xf_core_twin := by kernel_rfl
@[simp] theorem T_23 : lookT tbl 23 = some xf_core_leads := by kernel_rfl
@[simp] theorem T_24 : lookT tbl 24 = some xf_plain_CopyState := by kernel_rfl
@[simp] theorem T_25 : lookT tbl 25 = some xf_plain_Given_Entries := by kernel_rfl
@[simp] theorem T_26 : lookT tbl 26 = some xf_plain_Given_Vector := by kernel_rfl
@[simp] theorem T_27 : lookT tbl 27 = some xf_ref09_Check := by kernel_rfl
@[simp] theorem T_28 : lookT tbl 28 = some xf_ref09_Primary := by kernel_rfl
@[simp] theorem T_29 : lookT tbl 29 = some xf_plain_SameEntries := by kernel_rfl
@[simp] theorem T_30 : lookT tbl 30 = some xf_plain_SameVector := by kernel_rfl
@[simp] theorem T_31 : lookT tbl 31 = some xf_plain_sameAcks := by kernel_rfl
@[simp] theorem T_32 : lookT tbl 32 = some xf_plain_sameMarks := by kernel_rfl
@[simp] theorem T_33 : lookT tbl 33 = some xf_plain_SameBallots := by kernel_rfl
@[simp] theorem T_34 : lookT tbl 34 = some xf_plain_SameAnswers := by kernel_rfl
@[simp] theorem T_36 : lookT tbl 36 = some xf_plain_SameInts := by kernel_rfl
@[simp] theorem T_37 : lookT tbl 37 = some xf_core_Nodes := by kernel_rfl
@[simp] theorem T_38 : lookT tbl 38 = some xf_core_out := by kernel_rfl
@[simp] theorem T_39 : lookT tbl 39 = some xf_ref09_Nodes := by kernel_rfl
@[simp] theorem T_40 : lookT tbl 40 = some xf_ref09_stamped := by kernel_rfl
@[simp] theorem T_41 : lookT tbl 41 = some xf_client_Between := by kernel_rfl
@[simp] theorem T_42 : lookT tbl 42 = some xf_ref05_Between := by kernel_rfl
@[simp] theorem T_43 : lookT tbl 43 = some xf_core_CheckConfig := by kernel_rfl
@[simp] theorem T_44 : lookT tbl 44 = some xf_core_logged := by kernel_rfl
@[simp] theorem T_45 : lookT tbl 45 = some xf_core_voted := by kernel_rfl
@[simp] theorem T_46 : lookT tbl 46 = some xf_core_normal := by kernel_rfl
@[simp] theorem T_47 : lookT tbl 47 = some xf_core_changing := by kernel_rfl
@[simp] theorem T_48 : lookT tbl 48 = some xf_core_recovering := by kernel_rfl
@[simp] theorem T_49 : lookT tbl 49 = some xn_slices_Clone_Entry_Entry := by kernel_rfl
@[simp] theorem T_50 : lookT tbl 50 = some xn_slices_Clone_Vector_Draw := by kernel_rfl
@[simp] theorem T_51 : lookT tbl 51 = some xn_slices_Clone_Ack_Ack := by kernel_rfl
@[simp] theorem T_52 : lookT tbl 52 = some xn_slices_Clone_Mark_Mark := by kernel_rfl
@[simp] theorem T_53 : lookT tbl 53 = some xn_slices_Clone_Ballot_Ballot := by kernel_rfl
@[simp] theorem T_54 : lookT tbl 54 = some xn_slices_Clone_Answer_Answer := by kernel_rfl
@[simp] theorem T_55 : lookT tbl 55 = some xf_plain_CopyEntries := by kernel_rfl
@[simp] theorem T_56 : lookT tbl 56 = some xf_plain_CopyVector := by kernel_rfl
@[simp] theorem T_57 : lookT tbl 57 = some xf_ref09_CheckConfig := by kernel_rfl
@[simp] theorem T_58 : lookT tbl 58 = some xf_ref09_may := by kernel_rfl
@[simp] theorem T_59 : lookT tbl 59 = some xf_message_Between := by kernel_rfl
@[simp] theorem T_60 : lookT tbl 60 = some xf_plain_CopyMsg := by kernel_rfl
@[simp] theorem T_61 : lookT tbl 61 = some xf_ref07_Between := by kernel_rfl
@[simp] theorem T_62 : lookT tbl 62 = some xf_client_check := by kernel_rfl
@[simp] theorem T_63 : lookT tbl 63 = some xf_client_rows := by kernel_rfl
@[simp] theorem T_64 : lookT tbl 64 = some xf_ref05_Log := by kernel_rfl
@[simp] theorem T_65 : lookT tbl 65 = some xf_ref05_results := by kernel_rfl
@[simp] theorem T_66 : lookT tbl 66 = some xf_ref05_row := by kernel_rfl
@[simp] theorem T_67 : lookT tbl 67 = some xn_oplog_Check := by kernel_rfl
@[simp] theorem T_68 : lookT tbl 68 = some xf_core_voters := by kernel_rfl
@[simp] theorem T_69 : lookT tbl 69 = some xf_core_Primary := by kernel_rfl
@[simp] theorem T_70 : lookT tbl 70 = some xf_ref07_Config := by kernel_rfl
@[simp] theorem T_71 : lookT tbl 71 = some xf_ref09_logged := by kernel_rfl
@[simp] theorem T_72 : lookT tbl 72 = some xf_ref09_votes := by kernel_rfl
@[simp] theorem T_73 : lookT tbl 73 = some xf_ref09_recovering := by kernel_rfl
@[simp] theorem T_74 : lookT tbl 74 = some xf_client_entry := by kernel_rfl
@[simp] theorem T_75 : lookT tbl 75 = some xf_ledger_Check := by kernel_rfl
@[simp] theorem T_76 : lookT tbl 76 = some xf_ledger_New := by kernel_rfl
@[simp] theorem T_77 : lookT tbl 77 = some xf_ledger_Ledger_Do := by kernel_rfl
@[simp] theorem T_78 : lookT tbl 78 = some xf_ref05_Entry := by kernel_rfl
@[simp] theorem T_79 : lookT tbl 79 = some xf_ref04_Replay := by kernel_rfl
@[simp] theorem T_80 : lookT tbl 80 = some xf_oplog_Each := by kernel_rfl
@[simp] theorem T_81 : lookT tbl 81 = some xf_oplog_fits := by kernel_rfl
@[simp] theorem T_82 : lookT tbl 82 = some xf_ref09_voters := by kernel_rfl
@[simp] theorem T_83 : lookT tbl 83 = some xf_ledger_Ledger_Would := by kernel_rfl
@[simp] theorem T_84 : lookT tbl 84 = some xf_ledger_Ledger_put := by kernel_rfl
@[simp] theorem T_85 : lookT tbl 85 = some xf_ref04_Check := by kernel_rfl
@[simp] theorem T_86 : lookT tbl 86 = some xf_ref04_Do := by kernel_rfl
@[simp] theorem T_87 : lookT tbl 87 = some xf_oplog_joined := by kernel_rfl
@[simp] theorem T_88 : lookT tbl 88 = some xf_oplog_Each_1 := by kernel_rfl
@[simp] theorem T_89 : lookT tbl 89 = some xf_ref04_Get := by kernel_rfl
@[simp] theorem T_90 : lookT tbl 90 = some xf_ref04_put := by kernel_rfl

set_option maxRecDepth 100000
theorem tbl_ok : AllOk Try.prog tbl :=
  .cons (.inl ⟨rfl, r_law09_CoreWaits⟩) <|
  .cons (.inl ⟨rfl, r_law09_CoreSends⟩) <|
  .cons (.inl ⟨rfl, r_law09_CoreCarries⟩) <|
  .cons (.inl ⟨rfl, r_core_Wait⟩) <|
  .cons (.inl ⟨rfl, r_plain_Given_State⟩) <|
  .cons (.inl ⟨rfl, r_ref09_Wait⟩) <|
  .cons (.inl ⟨rfl, r_law09_num⟩) <|
  .cons (.inl ⟨rfl, r_plain_SameState⟩) <|
  .cons (.inl ⟨rfl, r_plain_Given_Intact⟩) <|
  .cons (.inl ⟨rfl, r_plain_Given_Msg⟩) <|
  .cons (.inl ⟨rfl, r_core_One⟩) <|
  .cons (.inl ⟨rfl, r_ref09_One⟩) <|
  .cons (.inl ⟨rfl, r_core_All⟩) <|
  .cons (.inl ⟨rfl, r_ref09_All⟩) <|
  .cons (.inl ⟨rfl, r_plain_SameMsg⟩) <|
  .cons (.inl ⟨rfl, r_plain_SameSends⟩) <|
  .cons (.inl ⟨rfl, r_core_Carry⟩) <|
  .cons (.inl ⟨rfl, r_ref09_Carry⟩) <|
  .cons (.inl ⟨rfl, r_core_Check⟩) <|
  .cons (.inl ⟨rfl, r_core_twin⟩) <|
  .cons (.inl ⟨rfl, r_core_leads⟩) <|
  .cons (.inl ⟨rfl, r_plain_CopyState⟩) <|
  .cons (.inl ⟨rfl, r_plain_Given_Entries⟩) <|
  .cons (.inl ⟨rfl, r_plain_Given_Vector⟩) <|
  .cons (.inl ⟨rfl, r_ref09_Check⟩) <|
  .cons (.inl ⟨rfl, r_ref09_Primary⟩) <|
  .cons (.inl ⟨rfl, r_plain_SameEntries⟩) <|
  .cons (.inl ⟨rfl, r_plain_SameVector⟩) <|
  .cons (.inl ⟨rfl, r_plain_sameAcks⟩) <|
  .cons (.inl ⟨rfl, r_plain_sameMarks⟩) <|
  .cons (.inl ⟨rfl, r_plain_SameBallots⟩) <|
  .cons (.inl ⟨rfl, r_plain_SameAnswers⟩) <|
  .cons (.inl ⟨rfl, r_plain_SameInts⟩) <|
  .cons (.inl ⟨rfl, r_core_Nodes⟩) <|
  .cons (.inl ⟨rfl, r_core_out⟩) <|
  .cons (.inl ⟨rfl, r_ref09_Nodes⟩) <|
  .cons (.inl ⟨rfl, r_ref09_stamped⟩) <|
  .cons (.inl ⟨rfl, r_client_Between⟩) <|
  .cons (.inl ⟨rfl, r_ref05_Between⟩) <|
  .cons (.inl ⟨rfl, r_core_CheckConfig⟩) <|
  .cons (.inl ⟨rfl, r_core_logged⟩) <|
  .cons (.inl ⟨rfl, r_core_voted⟩) <|
  .cons (.inl ⟨rfl, r_core_normal⟩) <|
  .cons (.inl ⟨rfl, r_core_changing⟩) <|
  .cons (.inl ⟨rfl, r_core_recovering⟩) <|
  .cons (.inr ⟨_, rfl, nv_slices_Clone_Entry_Entry⟩) <|
  .cons (.inr ⟨_, rfl, nv_slices_Clone_Vector_Draw⟩) <|
  .cons (.inr ⟨_, rfl, nv_slices_Clone_Ack_Ack⟩) <|
  .cons (.inr ⟨_, rfl, nv_slices_Clone_Mark_Mark⟩) <|
  .cons (.inr ⟨_, rfl, nv_slices_Clone_Ballot_Ballot⟩) <|
  .cons (.inr ⟨_, rfl, nv_slices_Clone_Answer_Answer⟩) <|
  .cons (.inl ⟨rfl, r_plain_CopyEntries⟩) <|
  .cons (.inl ⟨rfl, r_plain_CopyVector⟩) <|
  .cons (.inl ⟨rfl, r_ref09_CheckConfig⟩) <|
  .cons (.inl ⟨rfl, r_ref09_may⟩) <|
  .cons (.inl ⟨rfl, r_message_Between⟩) <|
  .cons (.inl ⟨rfl, r_plain_CopyMsg⟩) <|
  .cons (.inl ⟨rfl, r_ref07_Between⟩) <|
  .cons (.inl ⟨rfl, r_client_check⟩) <|
  .cons (.inl ⟨rfl, r_client_rows⟩) <|
  .cons (.inl ⟨rfl, r_ref05_Log⟩) <|
  .cons (.inl ⟨rfl, r_ref05_results⟩) <|
  .cons (.inl ⟨rfl, r_ref05_row⟩) <|
  .cons (.inr ⟨_, rfl, nv_oplog_Check⟩) <|
  .cons (.inl ⟨rfl, r_core_voters⟩) <|
  .cons (.inl ⟨rfl, r_core_Primary⟩) <|
  .cons (.inl ⟨rfl, r_ref07_Config⟩) <|
  .cons (.inl ⟨rfl, r_ref09_logged⟩) <|
  .cons (.inl ⟨rfl, r_ref09_votes⟩) <|
  .cons (.inl ⟨rfl, r_ref09_recovering⟩) <|
  .cons (.inl ⟨rfl, r_client_entry⟩) <|
  .cons (.inl ⟨rfl, r_ledger_Check⟩) <|
  .cons (.inl ⟨rfl, r_ledger_New⟩) <|
  .cons (.inl ⟨rfl, r_ledger_Ledger_Do⟩) <|
  .cons (.inl ⟨rfl, r_ref05_Entry⟩) <|
  .cons (.inl ⟨rfl, r_ref04_Replay⟩) <|
  .cons (.inl ⟨rfl, r_oplog_Each⟩) <|
  .cons (.inl ⟨rfl, r_oplog_fits⟩) <|
  .cons (.inl ⟨rfl, r_ref09_voters⟩) <|
  .cons (.inl ⟨rfl, r_ledger_Ledger_Would⟩) <|
  .cons (.inl ⟨rfl, r_ledger_Ledger_put⟩) <|
  .cons (.inl ⟨rfl, r_ref04_Check⟩) <|
  .cons (.inl ⟨rfl, r_ref04_Do⟩) <|
  .cons (.inl ⟨rfl, r_oplog_joined⟩) <|
  .cons (.inl ⟨rfl, r_oplog_Each_1⟩) <|
  .cons (.inl ⟨rfl, r_ref04_Get⟩) <|
  .cons (.inl ⟨rfl, r_ref04_put⟩) <|
  .nil
theorem T_ok : ∀ f xf, T f = some xf → FOk Try.prog f xf := tbl_ok.look

end Go.Ax
