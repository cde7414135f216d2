/-
  The table of this seat's functions.
-/
import Derived.Test.YtponcchkfmbicaaDoorXFs0
import Derived.Test.YtponcchkfmbicaaDoorXNv
namespace Go.Ax
set_option linter.all false
open Go.Proofs

def xn_slices_Clone_Entry_Entry : XFunc := ⟨some (cloneNv 55 5 false), false, 0, [], .skip⟩
def xn_slices_Clone_Vector_Draw : XFunc := ⟨some (cloneNv 26 2 false), false, 0, [], .skip⟩
def xn_slices_Clone_Ack_Ack : XFunc := ⟨some (cloneNv 111 4 false), false, 0, [], .skip⟩
def xn_slices_Clone_Mark_Mark : XFunc := ⟨some (cloneNv 113 3 false), false, 0, [], .skip⟩
def xn_slices_Clone_Ballot_Ballot : XFunc := ⟨some (cloneNv 115 6 true), false, 0, [], .skip⟩
def xn_slices_Clone_Answer_Answer : XFunc := ⟨some (cloneNv 117 6 true), false, 0, [], .skip⟩
def xn_oplog_Check : XFunc := ⟨some (checkNv), false, 0, [], .skip⟩
def tbl : List (Nat × XFunc) := [(3, xf_law09_CoreConfigs), (4, xf_law09_CoreStands), (5, xf_core_First), (6, xf_ref09_First), (7, xf_core_Reborn), (8, xf_ref09_Reborn), (9, xf_law09_num), (10, xf_core_CheckConfig), (11, xf_ref09_CheckConfig), (12, xf_core_Nodes), (13, xf_ref09_Nodes), (14, xf_core_Primary), (15, xf_ref09_Primary), (16, xf_plain_SameState), (17, xf_law09_alive), (18, xf_core_Check), (19, xf_core_Admit), (20, xf_core_Wait), (21, xf_core_Carry), (22, xf_message_Check), (23, xf_core_self), (24, xf_vector_New), (25, xf_ref09_self), (26, xf_ref07_Config), (27, xf_plain_SameEntries), (28, xf_plain_SameVector), (29, xf_plain_sameAcks), (30, xf_plain_sameMarks), (31, xf_plain_SameBallots), (32, xf_plain_SameAnswers), (33, xf_law09_three), (34, xf_law09_commit), (35, xf_core_logged), (36, xf_core_voted), (37, xf_core_normal), (38, xf_core_changing), (39, xf_core_recovering), (40, xf_core_twin), (41, xf_message_Between), (42, xf_vector_Over), (43, xf_nonce_Compare), (44, xf_vector_Merge), (45, xf_tally_PruneAcks), (46, xf_tally_PruneMarks), (47, xf_tally_PruneBallots), (48, xf_tally_PruneAnswers), (49, xf_core_leads), (50, xf_client_Between), (51, xf_message_config), (52, xf_message_is), (53, xf_message_unused), (54, xf_message_numbers), (55, xf_message_asks), (56, xf_message_answers), (57, xf_message_reads), (58, xn_oplog_Check), (59, xf_core_voters), (60, xn_slices_Clone_Entry_Entry), (61, xn_slices_Clone_Vector_Draw), (62, xn_slices_Clone_Ack_Ack), (63, xn_slices_Clone_Mark_Mark), (64, xn_slices_Clone_Ballot_Ballot), (65, xn_slices_Clone_Answer_Answer), (66, xf_vector_speaks), (67, xf_vector_fits), (68, xf_tally_turned_ack_Ack), (69, xf_tally_turned_Ack_ack), (70, xf_tally_toAck), (71, xf_tally_box_ack_prune), (72, xf_tally_fromAck), (73, xf_tally_turned_mark_Mark), (74, xf_tally_turned_Mark_mark), (75, xf_tally_toMark), (76, xf_tally_box_mark_prune), (77, xf_tally_fromMark), (78, xf_tally_turned_ballot_Ballot), (79, xf_tally_turned_Ballot_ballot), (80, xf_tally_toBallot), (81, xf_tally_box_ballot_prune), (82, xf_tally_fromBallot), (83, xf_tally_turned_answer_Answer), (84, xf_tally_turned_Answer_answer), (85, xf_tally_toAnswer), (86, xf_tally_box_answer_prune), (87, xf_tally_fromAnswer), (88, xf_client_check), (89, xf_client_rows), (90, xf_message_short), (91, xf_ledger_Check), (92, xf_oplog_Each), (93, xf_oplog_fits), (94, xf_client_entry), (95, xf_ledger_New), (96, xf_ledger_Ledger_Do), (97, xf_oplog_joined), (98, xf_oplog_Each_1), (99, xf_ledger_Ledger_Would), (100, xf_ledger_Ledger_put), (116, xf_tally_ack_draw), (117, xf_tally_ack_fresh), (118, xf_tally_ack_node), (119, xf_tally_mark_draw), (120, xf_tally_mark_fresh), (121, xf_tally_mark_node), (122, xf_tally_ballot_draw), (123, xf_tally_ballot_fresh), (124, xf_tally_ballot_node), (125, xf_tally_answer_draw), (126, xf_tally_answer_fresh), (127, xf_tally_answer_node), (133, xf_gosem_cut_vars)]
def T (f : Nat) : Option XFunc := lookT tbl f
@[simp] theorem T_3 : lookT tbl 3 = some xf_law09_CoreConfigs := by kernel_rfl
@[simp] theorem T_4 : lookT tbl 4 = some xf_law09_CoreStands := by kernel_rfl
@[simp] theorem T_5 : lookT tbl 5 = some xf_core_First := by kernel_rfl
@[simp] theorem T_6 : lookT tbl 6 = some xf_ref09_First := by kernel_rfl
@[simp] theorem T_7 : lookT tbl 7 = some xf_core_Reborn := by kernel_rfl
@[simp] theorem T_8 : lookT tbl 8 = some xf_ref09_Reborn := by kernel_rfl
@[simp] theorem T_9 : lookT tbl 9 = some xf_law09_num := by kernel_rfl
@[simp] theorem T_10 : lookT tbl 10 = some xf_core_CheckConfig := by kernel_rfl
@[simp] theorem T_11 : lookT tbl 11 = some xf_ref09_CheckConfig := by kernel_rfl
@[simp] theorem T_12 : lookT tbl 12 = some xf_core_Nodes := by kernel_rfl
@[simp] theorem T_13 : lookT tbl 13 = some xf_ref09_Nodes := by kernel_rfl
@[simp] theorem T_14 : lookT tbl 14 = some xf_core_Primary := by kernel_rfl
@[simp] theorem T_15 : lookT tbl 15 = some xf_ref09_Primary := by kernel_rfl
@[simp] theorem T_16 : lookT tbl 16 = some xf_plain_SameState := by kernel_rfl
@[simp] theorem T_17 : lookT tbl 17 = some xf_law09_alive := by kernel_rfl
@[simp] theorem T_18 : lookT tbl 18 = some xf_core_Check := by kernel_rfl
@[simp] theorem T_19 : lookT tbl 19 = some xf_core_Admit := by kernel_rfl
@[simp] theorem T_20 : lookT tbl 20 = some xf_core_Wait := by kernel_rfl
@[simp] theorem T_21 : lookT tbl 21 = some xf_core_Carry := by kernel_rfl
@[simp] theorem T_22 : lookT tbl 22 = some xf_message_Check := by kernel_rfl
@[simp] theorem T_23 : lookT tbl 23 = some xf_core_self := by kernel_rfl
@[simp] theorem T_24 : lookT tbl 24 = some xf_vector_New := by kernel_rfl
@[simp] theorem T_25 : lookT tbl 25 = some xf_ref09_self := by kernel_rfl
@[simp] theorem T_26 : lookT tbl 26 = some xf_ref07_Config := by kernel_rfl
@[simp] theorem T_27 : lookT tbl 27 = some xf_plain_SameEntries := by kernel_rfl
@[simp] theorem T_28 : lookT tbl 28 = some xf_plain_SameVector := by kernel_rfl
@[simp] theorem T_29 : lookT tbl 29 = some xf_plain_sameAcks := by kernel_rfl
@[simp] theorem T_30 : lookT tbl 30 = some xf_plain_sameMarks := by kernel_rfl
@[simp] theorem T_31 : lookT tbl 31 = some xf_plain_SameBallots := by kernel_rfl
@[simp] theorem T_32 : lookT tbl 32 = some xf_plain_SameAnswers := by kernel_rfl
@[simp] theorem T_33 : lookT tbl 33 = some xf_law09_three := by kernel_rfl
@[simp] theorem T_34 : lookT tbl 34 = some xf_law09_commit := by kernel_rfl
@[simp] theorem T_35 : lookT tbl 35 = some xf_core_logged := by kernel_rfl
@[simp] theorem T_36 : lookT tbl 36 = some xf_core_voted := by kernel_rfl
@[simp] theorem T_37 : lookT tbl 37 = some xf_core_normal := by kernel_rfl
@[simp] theorem T_38 : lookT tbl 38 = some xf_core_changing := by kernel_rfl
@[simp] theorem T_39 : lookT tbl 39 = some xf_core_recovering := by kernel_rfl
@[simp] theorem T_40 : lookT tbl 40 = some xf_core_twin := by kernel_rfl
@[simp] theorem T_41 : lookT tbl 41 = some xf_message_Between := by kernel_rfl
@[simp] theorem T_42 : lookT tbl 42 = some xf_vector_Over := by kernel_rfl
@[simp] theorem T_43 : lookT tbl 43 = some xf_nonce_Compare := by kernel_rfl
@[simp] theorem T_44 : lookT tbl 44 = some xf_vector_Merge := by kernel_rfl
@[simp] theorem T_45 : lookT tbl 45 = some xf_tally_PruneAcks := by kernel_rfl
@[simp] theorem T_46 : lookT tbl 46 = some xf_tally_PruneMarks := by kernel_rfl
@[simp] theorem T_47 : lookT tbl 47 = some xf_tally_PruneBallots := by kernel_rfl
@[simp] theorem T_48 : lookT tbl 48 = some xf_tally_PruneAnswers := by kernel_rfl
@[simp] theorem T_49 : lookT tbl 49 = some xf_core_leads := by kernel_rfl
@[simp] theorem T_50 : lookT tbl 50 = some xf_client_Between := by kernel_rfl
@[simp] theorem T_51 : lookT tbl 51 = some xf_message_config := by kernel_rfl
@[simp] theorem T_52 : lookT tbl 52 = some xf_message_is := by kernel_rfl
@[simp] theorem T_53 : lookT tbl 53 = some xf_message_unused := by kernel_rfl
@[simp] theorem T_54 : lookT tbl 54 = some xf_message_numbers := by kernel_rfl
@[simp] theorem T_55 : lookT tbl 55 = some xf_message_asks := by kernel_rfl
@[simp] theorem T_56 : lookT tbl 56 = some xf_message_answers := by kernel_rfl
@[simp] theorem T_57 : lookT tbl 57 = some xf_message_reads := by kernel_rfl
@[simp] theorem T_58 : lookT tbl 58 = some xn_oplog_Check := by kernel_rfl
@[simp] theorem T_59 : lookT tbl 59 = some xf_core_voters := by kernel_rfl
@[simp] theorem T_60 : lookT tbl 60 = some xn_slices_Clone_Entry_Entry := by kernel_rfl
@[simp] theorem T_61 : lookT tbl 61 = some xn_slices_Clone_Vector_Draw := by kernel_rfl
@[simp] theorem T_62 : lookT tbl 62 = some xn_slices_Clone_Ack_Ack := by kernel_rfl
@[simp] theorem T_63 : lookT tbl 63 = some xn_slices_Clone_Mark_Mark := by kernel_rfl
@[simp] theorem T_64 : lookT tbl 64 = some xn_slices_Clone_Ballot_Ballot := by kernel_rfl
@[simp] theorem T_65 : lookT tbl 65 = some xn_slices_Clone_Answer_Answer := by kernel_rfl
@[simp] theorem T_66 : lookT tbl 66 = some xf_vector_speaks := by kernel_rfl
@[simp] theorem T_67 : lookT tbl 67 = some xf_vector_fits := by kernel_rfl
@[simp] theorem T_68 : lookT tbl 68 = some xf_tally_turned_ack_Ack := by kernel_rfl
@[simp] theorem T_69 : lookT tbl 69 = some xf_tally_turned_Ack_ack := by kernel_rfl
@[simp] theorem T_70 : lookT tbl 70 = some xf_tally_toAck := by kernel_rfl
@[simp] theorem T_71 : lookT tbl 71 = some xf_tally_box_ack_prune := by kernel_rfl
@[simp] theorem T_72 : lookT tbl 72 = some xf_tally_fromAck := by kernel_rfl
@[simp] theorem T_73 : lookT tbl 73 = some xf_tally_turned_mark_Mark := by kernel_rfl
@[simp] theorem T_74 : lookT tbl 74 = some xf_tally_turned_Mark_mark := by kernel_rfl
@[simp] theorem T_75 : lookT tbl 75 = some xf_tally_toMark := by kernel_rfl
@[simp] theorem T_76 : lookT tbl 76 = some xf_tally_box_mark_prune := by kernel_rfl
@[simp] theorem T_77 : lookT tbl 77 = some xf_tally_fromMark := by kernel_rfl
@[simp] theorem T_78 : lookT tbl 78 = some xf_tally_turned_ballot_Ballot := by kernel_rfl
@[simp] theorem T_79 : lookT tbl 79 = some xf_tally_turned_Ballot_ballot := by kernel_rfl
@[simp] theorem T_80 : lookT tbl 80 = some xf_tally_toBallot := by kernel_rfl
@[simp] theorem T_81 : lookT tbl 81 = some xf_tally_box_ballot_prune := by kernel_rfl
@[simp] theorem T_82 : lookT tbl 82 = some xf_tally_fromBallot := by kernel_rfl
@[simp] theorem T_83 : lookT tbl 83 = some xf_tally_turned_answer_Answer := by kernel_rfl
@[simp] theorem T_84 : lookT tbl 84 = some xf_tally_turned_Answer_answer := by kernel_rfl
@[simp] theorem T_85 : lookT tbl 85 = some xf_tally_toAnswer := by kernel_rfl
@[simp] theorem T_86 : lookT tbl 86 = some xf_tally_box_answer_prune := by kernel_rfl
@[simp] theorem T_87 : lookT tbl 87 = some xf_tally_fromAnswer := by kernel_rfl
@[simp] theorem T_88 : lookT tbl 88 = some xf_client_check := by kernel_rfl
@[simp] theorem T_89 : lookT tbl 89 = some xf_client_rows := by kernel_rfl
@[simp] theorem T_90 : lookT tbl 90 = some xf_message_short := by kernel_rfl
@[simp] theorem T_91 : lookT tbl 91 = some xf_ledger_Check := by kernel_rfl
@[simp] theorem T_92 : lookT tbl 92 = some xf_oplog_Each := by kernel_rfl
@[simp] theorem T_93 : lookT tbl 93 = some xf_oplog_fits := by kernel_rfl
@[simp] theorem T_94 : lookT tbl 94 = some xf_client_entry := by kernel_rfl
@[simp] theorem T_95 : lookT tbl 95 = some xf_ledger_New := by kernel_rfl
@[simp] theorem T_96 : lookT tbl 96 = some xf_ledger_Ledger_Do := by kernel_rfl
@[simp] theorem T_97 : lookT tbl 97 = some xf_oplog_joined := by kernel_rfl
@[simp] theorem T_98 : lookT tbl 98 = some xf_oplog_Each_1 := by kernel_rfl
@[simp] theorem T_99 : lookT tbl 99 = some xf_ledger_Ledger_Would := by kernel_rfl
@[simp] theorem T_100 : lookT tbl 100 = some xf_ledger_Ledger_put := by kernel_rfl
@[simp] theorem T_116 : lookT tbl 116 = some xf_tally_ack_draw := by kernel_rfl
@[simp] theorem T_117 : lookT tbl 117 = some xf_tally_ack_fresh := by kernel_rfl
@[simp] theorem T_118 : lookT tbl 118 = some xf_tally_ack_node := by kernel_rfl
@[simp] theorem T_119 : lookT tbl 119 = some xf_tally_mark_draw := by kernel_rfl
@[simp] theorem T_120 : lookT tbl 120 = some xf_tally_mark_fresh := by kernel_rfl
@[simp] theorem T_121 : lookT tbl 121 = some xf_tally_mark_node := by kernel_rfl
@[simp] theorem T_122 : lookT tbl 122 = some xf_tally_ballot_draw := by kernel_rfl
@[simp] theorem T_123 : lookT tbl 123 = some xf_tally_ballot_fresh := by kernel_rfl
@[simp] theorem T_124 : lookT tbl 124 = some xf_tally_ballot_node := by kernel_rfl
@[simp] theorem T_125 : lookT tbl 125 = some xf_tally_answer_draw := by kernel_rfl
@[simp] theorem T_126 : lookT tbl 126 = some xf_tally_answer_fresh := by kernel_rfl
@[simp] theorem T_127 : lookT tbl 127 = some xf_tally_answer_node := by kernel_rfl
@[simp] theorem T_133 : lookT tbl 133 = some xf_gosem_cut_vars := by kernel_rfl

set_option maxRecDepth 100000
theorem tbl_ok : AllOk Tryd.prog tbl :=
  .cons (.inl ⟨rfl, r_law09_CoreConfigs⟩) <|
  .cons (.inl ⟨rfl, r_law09_CoreStands⟩) <|
  .cons (.inl ⟨rfl, r_core_First⟩) <|
  .cons (.inl ⟨rfl, r_ref09_First⟩) <|
  .cons (.inl ⟨rfl, r_core_Reborn⟩) <|
  .cons (.inl ⟨rfl, r_ref09_Reborn⟩) <|
  .cons (.inl ⟨rfl, r_law09_num⟩) <|
  .cons (.inl ⟨rfl, r_core_CheckConfig⟩) <|
  .cons (.inl ⟨rfl, r_ref09_CheckConfig⟩) <|
  .cons (.inl ⟨rfl, r_core_Nodes⟩) <|
  .cons (.inl ⟨rfl, r_ref09_Nodes⟩) <|
  .cons (.inl ⟨rfl, r_core_Primary⟩) <|
  .cons (.inl ⟨rfl, r_ref09_Primary⟩) <|
  .cons (.inl ⟨rfl, r_plain_SameState⟩) <|
  .cons (.inl ⟨rfl, r_law09_alive⟩) <|
  .cons (.inl ⟨rfl, r_core_Check⟩) <|
  .cons (.inl ⟨rfl, r_core_Admit⟩) <|
  .cons (.inl ⟨rfl, r_core_Wait⟩) <|
  .cons (.inl ⟨rfl, r_core_Carry⟩) <|
  .cons (.inl ⟨rfl, r_message_Check⟩) <|
  .cons (.inl ⟨rfl, r_core_self⟩) <|
  .cons (.inl ⟨rfl, r_vector_New⟩) <|
  .cons (.inl ⟨rfl, r_ref09_self⟩) <|
  .cons (.inl ⟨rfl, r_ref07_Config⟩) <|
  .cons (.inl ⟨rfl, r_plain_SameEntries⟩) <|
  .cons (.inl ⟨rfl, r_plain_SameVector⟩) <|
  .cons (.inl ⟨rfl, r_plain_sameAcks⟩) <|
  .cons (.inl ⟨rfl, r_plain_sameMarks⟩) <|
  .cons (.inl ⟨rfl, r_plain_SameBallots⟩) <|
  .cons (.inl ⟨rfl, r_plain_SameAnswers⟩) <|
  .cons (.inl ⟨rfl, r_law09_three⟩) <|
  .cons (.inl ⟨rfl, r_law09_commit⟩) <|
  .cons (.inl ⟨rfl, r_core_logged⟩) <|
  .cons (.inl ⟨rfl, r_core_voted⟩) <|
  .cons (.inl ⟨rfl, r_core_normal⟩) <|
  .cons (.inl ⟨rfl, r_core_changing⟩) <|
  .cons (.inl ⟨rfl, r_core_recovering⟩) <|
  .cons (.inl ⟨rfl, r_core_twin⟩) <|
  .cons (.inl ⟨rfl, r_message_Between⟩) <|
  .cons (.inl ⟨rfl, r_vector_Over⟩) <|
  .cons (.inl ⟨rfl, r_nonce_Compare⟩) <|
  .cons (.inl ⟨rfl, r_vector_Merge⟩) <|
  .cons (.inl ⟨rfl, r_tally_PruneAcks⟩) <|
  .cons (.inl ⟨rfl, r_tally_PruneMarks⟩) <|
  .cons (.inl ⟨rfl, r_tally_PruneBallots⟩) <|
  .cons (.inl ⟨rfl, r_tally_PruneAnswers⟩) <|
  .cons (.inl ⟨rfl, r_core_leads⟩) <|
  .cons (.inl ⟨rfl, r_client_Between⟩) <|
  .cons (.inl ⟨rfl, r_message_config⟩) <|
  .cons (.inl ⟨rfl, r_message_is⟩) <|
  .cons (.inl ⟨rfl, r_message_unused⟩) <|
  .cons (.inl ⟨rfl, r_message_numbers⟩) <|
  .cons (.inl ⟨rfl, r_message_asks⟩) <|
  .cons (.inl ⟨rfl, r_message_answers⟩) <|
  .cons (.inl ⟨rfl, r_message_reads⟩) <|
  .cons (.inr ⟨_, rfl, nv_oplog_Check⟩) <|
  .cons (.inl ⟨rfl, r_core_voters⟩) <|
  .cons (.inr ⟨_, rfl, nv_slices_Clone_Entry_Entry⟩) <|
  .cons (.inr ⟨_, rfl, nv_slices_Clone_Vector_Draw⟩) <|
  .cons (.inr ⟨_, rfl, nv_slices_Clone_Ack_Ack⟩) <|
  .cons (.inr ⟨_, rfl, nv_slices_Clone_Mark_Mark⟩) <|
  .cons (.inr ⟨_, rfl, nv_slices_Clone_Ballot_Ballot⟩) <|
  .cons (.inr ⟨_, rfl, nv_slices_Clone_Answer_Answer⟩) <|
  .cons (.inl ⟨rfl, r_vector_speaks⟩) <|
  .cons (.inl ⟨rfl, r_vector_fits⟩) <|
  .cons (.inl ⟨rfl, r_tally_turned_ack_Ack⟩) <|
  .cons (.inl ⟨rfl, r_tally_turned_Ack_ack⟩) <|
  .cons (.inl ⟨rfl, r_tally_toAck⟩) <|
  .cons (.inl ⟨rfl, r_tally_box_ack_prune⟩) <|
  .cons (.inl ⟨rfl, r_tally_fromAck⟩) <|
  .cons (.inl ⟨rfl, r_tally_turned_mark_Mark⟩) <|
  .cons (.inl ⟨rfl, r_tally_turned_Mark_mark⟩) <|
  .cons (.inl ⟨rfl, r_tally_toMark⟩) <|
  .cons (.inl ⟨rfl, r_tally_box_mark_prune⟩) <|
  .cons (.inl ⟨rfl, r_tally_fromMark⟩) <|
  .cons (.inl ⟨rfl, r_tally_turned_ballot_Ballot⟩) <|
  .cons (.inl ⟨rfl, r_tally_turned_Ballot_ballot⟩) <|
  .cons (.inl ⟨rfl, r_tally_toBallot⟩) <|
  .cons (.inl ⟨rfl, r_tally_box_ballot_prune⟩) <|
  .cons (.inl ⟨rfl, r_tally_fromBallot⟩) <|
  .cons (.inl ⟨rfl, r_tally_turned_answer_Answer⟩) <|
  .cons (.inl ⟨rfl, r_tally_turned_Answer_answer⟩) <|
  .cons (.inl ⟨rfl, r_tally_toAnswer⟩) <|
  .cons (.inl ⟨rfl, r_tally_box_answer_prune⟩) <|
  .cons (.inl ⟨rfl, r_tally_fromAnswer⟩) <|
  .cons (.inl ⟨rfl, r_client_check⟩) <|
  .cons (.inl ⟨rfl, r_client_rows⟩) <|
  .cons (.inl ⟨rfl, r_message_short⟩) <|
  .cons (.inl ⟨rfl, r_ledger_Check⟩) <|
  .cons (.inl ⟨rfl, r_oplog_Each⟩) <|
  .cons (.inl ⟨rfl, r_oplog_fits⟩) <|
  .cons (.inl ⟨rfl, r_client_entry⟩) <|
  .cons (.inl ⟨rfl, r_ledger_New⟩) <|
  .cons (.inl ⟨rfl, r_ledger_Ledger_Do⟩) <|
  .cons (.inl ⟨rfl, r_oplog_joined⟩) <|
  .cons (.inl ⟨rfl, r_oplog_Each_1⟩) <|
  .cons (.inl ⟨rfl, r_ledger_Ledger_Would⟩) <|
  .cons (.inl ⟨rfl, r_ledger_Ledger_put⟩) <|
  .cons (.inl ⟨rfl, r_tally_ack_draw⟩) <|
  .cons (.inl ⟨rfl, r_tally_ack_fresh⟩) <|
  .cons (.inl ⟨rfl, r_tally_ack_node⟩) <|
  .cons (.inl ⟨rfl, r_tally_mark_draw⟩) <|
  .cons (.inl ⟨rfl, r_tally_mark_fresh⟩) <|
  .cons (.inl ⟨rfl, r_tally_mark_node⟩) <|
  .cons (.inl ⟨rfl, r_tally_ballot_draw⟩) <|
  .cons (.inl ⟨rfl, r_tally_ballot_fresh⟩) <|
  .cons (.inl ⟨rfl, r_tally_ballot_node⟩) <|
  .cons (.inl ⟨rfl, r_tally_answer_draw⟩) <|
  .cons (.inl ⟨rfl, r_tally_answer_fresh⟩) <|
  .cons (.inl ⟨rfl, r_tally_answer_node⟩) <|
  .cons (.inl ⟨rfl, r_gosem_cut_vars⟩) <|
  .nil
theorem T_ok : ∀ f xf, T f = some xf → FOk Tryd.prog f xf := tbl_ok.look

end Go.Ax
