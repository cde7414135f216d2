/-
  The table of this seat's functions.
-/
import Derived.Test.YtlmbnpajipfkaaaGreatDoorXFs0
import Derived.Test.YtlmbnpajipfkaaaGreatDoorXFs1
import Derived.Test.YtlmbnpajipfkaaaGreatDoorXFs2
import Derived.Test.YtlmbnpajipfkaaaGreatDoorXNv
namespace Go.Ax
set_option linter.all false
open Go.Proofs

def xn_slices_Clone_Entry_Entry : XFunc := ⟨some (cloneNv 50 5 false), false, 0, [], .skip⟩
def xn_slices_Clone_Vector_Draw : XFunc := ⟨some (cloneNv 55 2 false), false, 0, [], .skip⟩
def xn_slices_Clone_Ack_Ack : XFunc := ⟨some (cloneNv 83 4 false), false, 0, [], .skip⟩
def xn_slices_Clone_Mark_Mark : XFunc := ⟨some (cloneNv 108 3 false), false, 0, [], .skip⟩
def xn_slices_Clone_Ballot_Ballot : XFunc := ⟨some (cloneNv 85 6 true), false, 0, [], .skip⟩
def xn_slices_Clone_Answer_Answer : XFunc := ⟨some (cloneNv 110 6 true), false, 0, [], .skip⟩
def xn_oplog_Check : XFunc := ⟨some (checkNv), false, 0, [], .skip⟩
def tbl : List (Nat × XFunc) := [(3, xf_law11_ChangeQuorum), (4, xf_law11_alive), (5, xf_core_Nodes), (6, xf_ref09_Check), (7, xf_plain_CopyEntries), (8, xf_core_Primary), (9, xf_change_Start), (10, xf_law11_num), (11, xf_change_Again), (12, xf_change_Vote), (13, xf_change_Install), (14, xf_plain_SameEntries), (15, xf_change_Suspect), (16, xf_law11_three), (17, xf_law11_backup), (18, xf_core_CheckConfig), (19, xf_ref09_CheckConfig), (20, xf_ref09_may), (21, xf_change_handle), (22, xf_core_Check), (23, xf_change_frame_all), (24, xf_tally_Marked), (25, xf_change_frame_ballot), (26, xf_core_Carry), (27, xf_change_frame_goes), (28, xf_ref07_Config), (29, xf_ref09_Nodes), (30, xf_ref09_logged), (31, xf_ref09_votes), (32, xf_ref09_recovering), (33, xf_message_Check), (34, xf_core_Admit), (35, xf_change_handlers), (36, xf_core_logged), (37, xf_core_voted), (38, xf_core_normal), (39, xf_core_changing), (40, xf_core_recovering), (41, xf_core_All), (42, xf_change_frame_primary), (43, xf_change_frame_one), (44, xf_core_twin), (45, xf_core_leads), (46, xf_client_Between), (47, xf_change_frame_clear), (48, xf_ref05_Log), (49, xf_ref09_voters), (50, xf_message_config), (51, xf_message_is), (52, xf_message_unused), (53, xf_message_numbers), (54, xf_message_asks), (55, xf_message_answers), (56, xf_message_reads), (57, xn_oplog_Check), (58, xf_message_Between), (59, xf_vector_Over), (60, xf_nonce_Compare), (61, xf_vector_Merge), (62, xf_tally_PruneAcks), (63, xf_tally_PruneMarks), (64, xf_tally_PruneBallots), (65, xf_tally_PruneAnswers), (66, xf_change_start), (67, xf_change_vote), (68, xf_change_install), (69, xf_core_voters), (70, xf_core_out), (71, xf_core_One), (72, xn_slices_Clone_Entry_Entry), (73, xn_slices_Clone_Vector_Draw), (74, xn_slices_Clone_Ack_Ack), (75, xn_slices_Clone_Mark_Mark), (76, xn_slices_Clone_Ballot_Ballot), (77, xn_slices_Clone_Answer_Answer), (78, xf_client_check), (79, xf_client_rows), (80, xf_ref05_Entry), (81, xf_message_short), (82, xf_ledger_Check), (83, xf_oplog_Each), (84, xf_oplog_fits), (85, xf_vector_speaks), (86, xf_vector_fits), (87, xf_tally_turned_ack_Ack), (88, xf_tally_turned_Ack_ack), (89, xf_tally_toAck), (90, xf_tally_box_ack_prune), (91, xf_tally_fromAck), (92, xf_tally_turned_mark_Mark), (93, xf_tally_turned_Mark_mark), (94, xf_tally_toMark), (95, xf_tally_box_mark_prune), (96, xf_tally_fromMark), (97, xf_tally_turned_ballot_Ballot), (98, xf_tally_turned_Ballot_ballot), (99, xf_tally_toBallot), (100, xf_tally_box_ballot_prune), (101, xf_tally_fromBallot), (102, xf_tally_turned_answer_Answer), (103, xf_tally_turned_Answer_answer), (104, xf_tally_toAnswer), (105, xf_tally_box_answer_prune), (106, xf_tally_fromAnswer), (107, xf_change_step_later), (108, xf_tally_PutMark), (109, xf_tally_PutBallot), (110, xf_tally_Choose), (111, xf_change_step_lead), (112, xf_client_entry), (113, xf_ledger_New), (114, xf_ledger_Ledger_Do), (115, xf_ref04_Check), (116, xf_oplog_joined), (117, xf_oplog_Each_1), (118, xf_tally_box_mark_put), (119, xf_tally_box_ballot_put), (120, xf_tally_ballot_fresh), (121, xf_ledger_Ledger_Would), (122, xf_ledger_Ledger_put), (138, xf_tally_ack_above), (139, xf_tally_ack_draw), (140, xf_tally_ack_fresh), (141, xf_tally_ack_node), (143, xf_tally_mark_above), (144, xf_tally_mark_draw), (145, xf_tally_mark_fresh), (146, xf_tally_mark_node), (147, xf_tally_ballot_above), (148, xf_tally_ballot_draw), (149, xf_tally_ballot_node), (150, xf_tally_longer), (151, xf_tally_answer_above), (152, xf_tally_answer_draw), (153, xf_tally_answer_fresh), (154, xf_tally_answer_node), (161, xf_gosem_cut_vars)]
def T (f : Nat) : Option XFunc := lookT tbl f
@[simp] theorem T_3 : lookT tbl 3 = some xf_law11_ChangeQuorum := by kernel_rfl
@[simp] theorem T_4 : lookT tbl 4 = some xf_law11_alive := by kernel_rfl
@[simp] theorem T_5 : lookT tbl 5 = some xf_core_Nodes := by kernel_rfl
@[simp] theorem T_6 : lookT tbl 6 = some xf_ref09_Check := by kernel_rfl
@[simp] theorem T_7 : lookT tbl 7 = some xf_plain_CopyEntries := by kernel_rfl
@[simp] theorem T_8 : lookT tbl 8 = some xf_core_Primary := by kernel_rfl
@[simp] theorem T_9 : lookT tbl 9 = some xf_change_Start := by kernel_rfl
@[simp] theorem T_10 : lookT tbl 10 = some xf_law11_num := by kernel_rfl
@[simp] theorem T_11 : lookT tbl 11 = some xf_change_Again := by kernel_rfl
@[simp] theorem T_12 : lookT tbl 12 = some xf_change_Vote := by kernel_rfl
@[simp] theorem T_13 : lookT tbl 13 = some xf_change_Install := by kernel_rfl
@[simp] theorem T_14 : lookT tbl 14 = some xf_plain_SameEntries := by kernel_rfl
@[simp] theorem T_15 : lookT tbl 15 = some xf_change_Suspect := by kernel_rfl
@[simp] theorem T_16 : lookT tbl 16 = some xf_law11_three := by kernel_rfl
@[simp] theorem T_17 : lookT tbl 17 = some xf_law11_backup := by kernel_rfl
@[simp] theorem T_18 : lookT tbl 18 = some xf_core_CheckConfig := by kernel_rfl
@[simp] theorem T_19 : lookT tbl 19 = some xf_ref09_CheckConfig := by kernel_rfl
@[simp] theorem T_20 : lookT tbl 20 = some xf_ref09_may := by kernel_rfl
@[simp] theorem T_21 : lookT tbl 21 = some xf_change_handle := by kernel_rfl
@[simp] theorem T_22 : lookT tbl 22 = some xf_core_Check := by kernel_rfl
@[simp] theorem T_23 : lookT tbl 23 = some xf_change_frame_all := by kernel_rfl
@[simp] theorem T_24 : lookT tbl 24 = some xf_tally_Marked := by kernel_rfl
@[simp] theorem T_25 : lookT tbl 25 = some xf_change_frame_ballot := by kernel_rfl
@[simp] theorem T_26 : lookT tbl 26 = some xf_core_Carry := by kernel_rfl
@[simp] theorem T_27 : lookT tbl 27 = some xf_change_frame_goes := by kernel_rfl
@[simp] theorem T_28 : lookT tbl 28 = some xf_ref07_Config := by kernel_rfl
@[simp] theorem T_29 : lookT tbl 29 = some xf_ref09_Nodes := by kernel_rfl
@[simp] theorem T_30 : lookT tbl 30 = some xf_ref09_logged := by kernel_rfl
@[simp] theorem T_31 : lookT tbl 31 = some xf_ref09_votes := by kernel_rfl
@[simp] theorem T_32 : lookT tbl 32 = some xf_ref09_recovering := by kernel_rfl
@[simp] theorem T_33 : lookT tbl 33 = some xf_message_Check := by kernel_rfl
@[simp] theorem T_34 : lookT tbl 34 = some xf_core_Admit := by kernel_rfl
@[simp] theorem T_35 : lookT tbl 35 = some xf_change_handlers := by kernel_rfl
@[simp] theorem T_36 : lookT tbl 36 = some xf_core_logged := by kernel_rfl
@[simp] theorem T_37 : lookT tbl 37 = some xf_core_voted := by kernel_rfl
@[simp] theorem T_38 : lookT tbl 38 = some xf_core_normal := by kernel_rfl
@[simp] theorem T_39 : lookT tbl 39 = some xf_core_changing := by kernel_rfl
@[simp] theorem T_40 : lookT tbl 40 = some xf_core_recovering := by kernel_rfl
@[simp] theorem T_41 : lookT tbl 41 = some xf_core_All := by kernel_rfl
@[simp] theorem T_42 : lookT tbl 42 = some xf_change_frame_primary := by kernel_rfl
@[simp] theorem T_43 : lookT tbl 43 = some xf_change_frame_one := by kernel_rfl
@[simp] theorem T_44 : lookT tbl 44 = some xf_core_twin := by kernel_rfl
@[simp] theorem T_45 : lookT tbl 45 = some xf_core_leads := by kernel_rfl
@[simp] theorem T_46 : lookT tbl 46 = some xf_client_Between := by kernel_rfl
@[simp] theorem T_47 : lookT tbl 47 = some xf_change_frame_clear := by kernel_rfl
@[simp] theorem T_48 : lookT tbl 48 = some xf_ref05_Log := by kernel_rfl
@[simp] theorem T_49 : lookT tbl 49 = some xf_ref09_voters := by kernel_rfl
@[simp] theorem T_50 : lookT tbl 50 = some xf_message_config := by kernel_rfl
@[simp] theorem T_51 : lookT tbl 51 = some xf_message_is := by kernel_rfl
@[simp] theorem T_52 : lookT tbl 52 = some xf_message_unused := by kernel_rfl
@[simp] theorem T_53 : lookT tbl 53 = some xf_message_numbers := by kernel_rfl
@[simp] theorem T_54 : lookT tbl 54 = some xf_message_asks := by kernel_rfl
@[simp] theorem T_55 : lookT tbl 55 = some xf_message_answers := by kernel_rfl
@[simp] theorem T_56 : lookT tbl 56 = some xf_message_reads := by kernel_rfl
@[simp] theorem T_57 : lookT tbl 57 = some xn_oplog_Check := by kernel_rfl
@[simp] theorem T_58 : lookT tbl 58 = some xf_message_Between := by kernel_rfl
@[simp] theorem T_59 : lookT tbl 59 = some xf_vector_Over := by kernel_rfl
@[simp] theorem T_60 : lookT tbl 60 = some xf_nonce_Compare := by kernel_rfl
@[simp] theorem T_61 : lookT tbl 61 = some xf_vector_Merge := by kernel_rfl
@[simp] theorem T_62 : lookT tbl 62 = some xf_tally_PruneAcks := by kernel_rfl
@[simp] theorem T_63 : lookT tbl 63 = some xf_tally_PruneMarks := by kernel_rfl
@[simp] theorem T_64 : lookT tbl 64 = some xf_tally_PruneBallots := by kernel_rfl
@[simp] theorem T_65 : lookT tbl 65 = some xf_tally_PruneAnswers := by kernel_rfl
@[simp] theorem T_66 : lookT tbl 66 = some xf_change_start := by kernel_rfl
@[simp] theorem T_67 : lookT tbl 67 = some xf_change_vote := by kernel_rfl
@[simp] theorem T_68 : lookT tbl 68 = some xf_change_install := by kernel_rfl
@[simp] theorem T_69 : lookT tbl 69 = some xf_core_voters := by kernel_rfl
@[simp] theorem T_70 : lookT tbl 70 = some xf_core_out := by kernel_rfl
@[simp] theorem T_71 : lookT tbl 71 = some xf_core_One := by kernel_rfl
@[simp] theorem T_72 : lookT tbl 72 = some xn_slices_Clone_Entry_Entry := by kernel_rfl
@[simp] theorem T_73 : lookT tbl 73 = some xn_slices_Clone_Vector_Draw := by kernel_rfl
@[simp] theorem T_74 : lookT tbl 74 = some xn_slices_Clone_Ack_Ack := by kernel_rfl
@[simp] theorem T_75 : lookT tbl 75 = some xn_slices_Clone_Mark_Mark := by kernel_rfl
@[simp] theorem T_76 : lookT tbl 76 = some xn_slices_Clone_Ballot_Ballot := by kernel_rfl
@[simp] theorem T_77 : lookT tbl 77 = some xn_slices_Clone_Answer_Answer := by kernel_rfl
@[simp] theorem T_78 : lookT tbl 78 = some xf_client_check := by kernel_rfl
@[simp] theorem T_79 : lookT tbl 79 = some xf_client_rows := by kernel_rfl
@[simp] theorem T_80 : lookT tbl 80 = some xf_ref05_Entry := by kernel_rfl
@[simp] theorem T_81 : lookT tbl 81 = some xf_message_short := by kernel_rfl
@[simp] theorem T_82 : lookT tbl 82 = some xf_ledger_Check := by kernel_rfl
@[simp] theorem T_83 : lookT tbl 83 = some xf_oplog_Each := by kernel_rfl
@[simp] theorem T_84 : lookT tbl 84 = some xf_oplog_fits := by kernel_rfl
@[simp] theorem T_85 : lookT tbl 85 = some xf_vector_speaks := by kernel_rfl
@[simp] theorem T_86 : lookT tbl 86 = some xf_vector_fits := by kernel_rfl
@[simp] theorem T_87 : lookT tbl 87 = some xf_tally_turned_ack_Ack := by kernel_rfl
@[simp] theorem T_88 : lookT tbl 88 = some xf_tally_turned_Ack_ack := by kernel_rfl
@[simp] theorem T_89 : lookT tbl 89 = some xf_tally_toAck := by kernel_rfl
@[simp] theorem T_90 : lookT tbl 90 = some xf_tally_box_ack_prune := by kernel_rfl
@[simp] theorem T_91 : lookT tbl 91 = some xf_tally_fromAck := by kernel_rfl
@[simp] theorem T_92 : lookT tbl 92 = some xf_tally_turned_mark_Mark := by kernel_rfl
@[simp] theorem T_93 : lookT tbl 93 = some xf_tally_turned_Mark_mark := by kernel_rfl
@[simp] theorem T_94 : lookT tbl 94 = some xf_tally_toMark := by kernel_rfl
@[simp] theorem T_95 : lookT tbl 95 = some xf_tally_box_mark_prune := by kernel_rfl
@[simp] theorem T_96 : lookT tbl 96 = some xf_tally_fromMark := by kernel_rfl
@[simp] theorem T_97 : lookT tbl 97 = some xf_tally_turned_ballot_Ballot := by kernel_rfl
@[simp] theorem T_98 : lookT tbl 98 = some xf_tally_turned_Ballot_ballot := by kernel_rfl
@[simp] theorem T_99 : lookT tbl 99 = some xf_tally_toBallot := by kernel_rfl
@[simp] theorem T_100 : lookT tbl 100 = some xf_tally_box_ballot_prune := by kernel_rfl
@[simp] theorem T_101 : lookT tbl 101 = some xf_tally_fromBallot := by kernel_rfl
@[simp] theorem T_102 : lookT tbl 102 = some xf_tally_turned_answer_Answer := by kernel_rfl
@[simp] theorem T_103 : lookT tbl 103 = some xf_tally_turned_Answer_answer := by kernel_rfl
@[simp] theorem T_104 : lookT tbl 104 = some xf_tally_toAnswer := by kernel_rfl
@[simp] theorem T_105 : lookT tbl 105 = some xf_tally_box_answer_prune := by kernel_rfl
@[simp] theorem T_106 : lookT tbl 106 = some xf_tally_fromAnswer := by kernel_rfl
@[simp] theorem T_107 : lookT tbl 107 = some xf_change_step_later := by kernel_rfl
@[simp] theorem T_108 : lookT tbl 108 = some xf_tally_PutMark := by kernel_rfl
@[simp] theorem T_109 : lookT tbl 109 = some xf_tally_PutBallot := by kernel_rfl
@[simp] theorem T_110 : lookT tbl 110 = some xf_tally_Choose := by kernel_rfl
@[simp] theorem T_111 : lookT tbl 111 = some xf_change_step_lead := by kernel_rfl
@[simp] theorem T_112 : lookT tbl 112 = some xf_client_entry := by kernel_rfl
@[simp] theorem T_113 : lookT tbl 113 = some xf_ledger_New := by kernel_rfl
@[simp] theorem T_114 : lookT tbl 114 = some xf_ledger_Ledger_Do := by kernel_rfl
@[simp] theorem T_115 : lookT tbl 115 = some xf_ref04_Check := by kernel_rfl
@[simp] theorem T_116 : lookT tbl 116 = some xf_oplog_joined := by kernel_rfl
@[simp] theorem T_117 : lookT tbl 117 = some xf_oplog_Each_1 := by kernel_rfl
@[simp] theorem T_118 : lookT tbl 118 = some xf_tally_box_mark_put := by kernel_rfl
@[simp] theorem T_119 : lookT tbl 119 = some xf_tally_box_ballot_put := by kernel_rfl
@[simp] theorem T_120 : lookT tbl 120 = some xf_tally_ballot_fresh := by kernel_rfl
@[simp] theorem T_121 : lookT tbl 121 = some xf_ledger_Ledger_Would := by kernel_rfl
@[simp] theorem T_122 : lookT tbl 122 = some xf_ledger_Ledger_put := by kernel_rfl
@[simp] theorem T_138 : lookT tbl 138 = some xf_tally_ack_above := by kernel_rfl
@[simp] theorem T_139 : lookT tbl 139 = some xf_tally_ack_draw := by kernel_rfl
@[simp] theorem T_140 : lookT tbl 140 = some xf_tally_ack_fresh := by kernel_rfl
@[simp] theorem T_141 : lookT tbl 141 = some xf_tally_ack_node := by kernel_rfl
@[simp] theorem T_143 : lookT tbl 143 = some xf_tally_mark_above := by kernel_rfl
@[simp] theorem T_144 : lookT tbl 144 = some xf_tally_mark_draw := by kernel_rfl
@[simp] theorem T_145 : lookT tbl 145 = some xf_tally_mark_fresh := by kernel_rfl
@[simp] theorem T_146 : lookT tbl 146 = some xf_tally_mark_node := by kernel_rfl
@[simp] theorem T_147 : lookT tbl 147 = some xf_tally_ballot_above := by kernel_rfl
@[simp] theorem T_148 : lookT tbl 148 = some xf_tally_ballot_draw := by kernel_rfl
@[simp] theorem T_149 : lookT tbl 149 = some xf_tally_ballot_node := by kernel_rfl
@[simp] theorem T_150 : lookT tbl 150 = some xf_tally_longer := by kernel_rfl
@[simp] theorem T_151 : lookT tbl 151 = some xf_tally_answer_above := by kernel_rfl
@[simp] theorem T_152 : lookT tbl 152 = some xf_tally_answer_draw := by kernel_rfl
@[simp] theorem T_153 : lookT tbl 153 = some xf_tally_answer_fresh := by kernel_rfl
@[simp] theorem T_154 : lookT tbl 154 = some xf_tally_answer_node := by kernel_rfl
@[simp] theorem T_161 : lookT tbl 161 = some xf_gosem_cut_vars := by kernel_rfl

set_option maxRecDepth 100000
theorem tbl_ok : AllOk Tryz.prog tbl :=
  .cons (.inl ⟨rfl, r_law11_ChangeQuorum⟩) <|
  .cons (.inl ⟨rfl, r_law11_alive⟩) <|
  .cons (.inl ⟨rfl, r_core_Nodes⟩) <|
  .cons (.inl ⟨rfl, r_ref09_Check⟩) <|
  .cons (.inl ⟨rfl, r_plain_CopyEntries⟩) <|
  .cons (.inl ⟨rfl, r_core_Primary⟩) <|
  .cons (.inl ⟨rfl, r_change_Start⟩) <|
  .cons (.inl ⟨rfl, r_law11_num⟩) <|
  .cons (.inl ⟨rfl, r_change_Again⟩) <|
  .cons (.inl ⟨rfl, r_change_Vote⟩) <|
  .cons (.inl ⟨rfl, r_change_Install⟩) <|
  .cons (.inl ⟨rfl, r_plain_SameEntries⟩) <|
  .cons (.inl ⟨rfl, r_change_Suspect⟩) <|
  .cons (.inl ⟨rfl, r_law11_three⟩) <|
  .cons (.inl ⟨rfl, r_law11_backup⟩) <|
  .cons (.inl ⟨rfl, r_core_CheckConfig⟩) <|
  .cons (.inl ⟨rfl, r_ref09_CheckConfig⟩) <|
  .cons (.inl ⟨rfl, r_ref09_may⟩) <|
  .cons (.inl ⟨rfl, r_change_handle⟩) <|
  .cons (.inl ⟨rfl, r_core_Check⟩) <|
  .cons (.inl ⟨rfl, r_change_frame_all⟩) <|
  .cons (.inl ⟨rfl, r_tally_Marked⟩) <|
  .cons (.inl ⟨rfl, r_change_frame_ballot⟩) <|
  .cons (.inl ⟨rfl, r_core_Carry⟩) <|
  .cons (.inl ⟨rfl, r_change_frame_goes⟩) <|
  .cons (.inl ⟨rfl, r_ref07_Config⟩) <|
  .cons (.inl ⟨rfl, r_ref09_Nodes⟩) <|
  .cons (.inl ⟨rfl, r_ref09_logged⟩) <|
  .cons (.inl ⟨rfl, r_ref09_votes⟩) <|
  .cons (.inl ⟨rfl, r_ref09_recovering⟩) <|
  .cons (.inl ⟨rfl, r_message_Check⟩) <|
  .cons (.inl ⟨rfl, r_core_Admit⟩) <|
  .cons (.inl ⟨rfl, r_change_handlers⟩) <|
  .cons (.inl ⟨rfl, r_core_logged⟩) <|
  .cons (.inl ⟨rfl, r_core_voted⟩) <|
  .cons (.inl ⟨rfl, r_core_normal⟩) <|
  .cons (.inl ⟨rfl, r_core_changing⟩) <|
  .cons (.inl ⟨rfl, r_core_recovering⟩) <|
  .cons (.inl ⟨rfl, r_core_All⟩) <|
  .cons (.inl ⟨rfl, r_change_frame_primary⟩) <|
  .cons (.inl ⟨rfl, r_change_frame_one⟩) <|
  .cons (.inl ⟨rfl, r_core_twin⟩) <|
  .cons (.inl ⟨rfl, r_core_leads⟩) <|
  .cons (.inl ⟨rfl, r_client_Between⟩) <|
  .cons (.inl ⟨rfl, r_change_frame_clear⟩) <|
  .cons (.inl ⟨rfl, r_ref05_Log⟩) <|
  .cons (.inl ⟨rfl, r_ref09_voters⟩) <|
  .cons (.inl ⟨rfl, r_message_config⟩) <|
  .cons (.inl ⟨rfl, r_message_is⟩) <|
  .cons (.inl ⟨rfl, r_message_unused⟩) <|
  .cons (.inl ⟨rfl, r_message_numbers⟩) <|
  .cons (.inl ⟨rfl, r_message_asks⟩) <|
  .cons (.inl ⟨rfl, r_message_answers⟩) <|
  .cons (.inl ⟨rfl, r_message_reads⟩) <|
  .cons (.inr ⟨_, rfl, nv_oplog_Check⟩) <|
  .cons (.inl ⟨rfl, r_message_Between⟩) <|
  .cons (.inl ⟨rfl, r_vector_Over⟩) <|
  .cons (.inl ⟨rfl, r_nonce_Compare⟩) <|
  .cons (.inl ⟨rfl, r_vector_Merge⟩) <|
  .cons (.inl ⟨rfl, r_tally_PruneAcks⟩) <|
  .cons (.inl ⟨rfl, r_tally_PruneMarks⟩) <|
  .cons (.inl ⟨rfl, r_tally_PruneBallots⟩) <|
  .cons (.inl ⟨rfl, r_tally_PruneAnswers⟩) <|
  .cons (.inl ⟨rfl, r_change_start⟩) <|
  .cons (.inl ⟨rfl, r_change_vote⟩) <|
  .cons (.inl ⟨rfl, r_change_install⟩) <|
  .cons (.inl ⟨rfl, r_core_voters⟩) <|
  .cons (.inl ⟨rfl, r_core_out⟩) <|
  .cons (.inl ⟨rfl, r_core_One⟩) <|
  .cons (.inr ⟨_, rfl, nv_slices_Clone_Entry_Entry⟩) <|
  .cons (.inr ⟨_, rfl, nv_slices_Clone_Vector_Draw⟩) <|
  .cons (.inr ⟨_, rfl, nv_slices_Clone_Ack_Ack⟩) <|
  .cons (.inr ⟨_, rfl, nv_slices_Clone_Mark_Mark⟩) <|
  .cons (.inr ⟨_, rfl, nv_slices_Clone_Ballot_Ballot⟩) <|
  .cons (.inr ⟨_, rfl, nv_slices_Clone_Answer_Answer⟩) <|
  .cons (.inl ⟨rfl, r_client_check⟩) <|
  .cons (.inl ⟨rfl, r_client_rows⟩) <|
  .cons (.inl ⟨rfl, r_ref05_Entry⟩) <|
  .cons (.inl ⟨rfl, r_message_short⟩) <|
  .cons (.inl ⟨rfl, r_ledger_Check⟩) <|
  .cons (.inl ⟨rfl, r_oplog_Each⟩) <|
  .cons (.inl ⟨rfl, r_oplog_fits⟩) <|
  .cons (.inl ⟨rfl, r_vector_speaks⟩) <|
  .cons (.inl ⟨rfl, r_vector_fits⟩) <|
  .cons (.inl ⟨rfl, r_tally_turned_ack_Ack⟩) <|
  .cons (.inl ⟨rfl, r_tally_turned_Ack_ack⟩) <|
  .cons (.inl ⟨rfl, r_tally_toAck⟩) <|
  .cons (.inl ⟨rfl, r_tally_box_ack_prune⟩) <|
  .cons (.inl ⟨rfl, r_tally_fromAck⟩) <|
  .cons (.inl ⟨rfl, r_tally_turned_mark_Mark⟩) <|
  .cons (.inl ⟨rfl, r_tally_turned_Mark_mark⟩) <|
  .cons (.inl ⟨rfl, r_tally_toMark⟩) <|
  .cons (.inl ⟨rfl, r_tally_box_mark_prune⟩) <|
  .cons (.inl ⟨rfl, r_tally_fromMark⟩) <|
  .cons (.inl ⟨rfl, r_tally_turned_ballot_Ballot⟩) <|
  .cons (.inl ⟨rfl, r_tally_turned_Ballot_ballot⟩) <|
  .cons (.inl ⟨rfl, r_tally_toBallot⟩) <|
  .cons (.inl ⟨rfl, r_tally_box_ballot_prune⟩) <|
  .cons (.inl ⟨rfl, r_tally_fromBallot⟩) <|
  .cons (.inl ⟨rfl, r_tally_turned_answer_Answer⟩) <|
  .cons (.inl ⟨rfl, r_tally_turned_Answer_answer⟩) <|
  .cons (.inl ⟨rfl, r_tally_toAnswer⟩) <|
  .cons (.inl ⟨rfl, r_tally_box_answer_prune⟩) <|
  .cons (.inl ⟨rfl, r_tally_fromAnswer⟩) <|
  .cons (.inl ⟨rfl, r_change_step_later⟩) <|
  .cons (.inl ⟨rfl, r_tally_PutMark⟩) <|
  .cons (.inl ⟨rfl, r_tally_PutBallot⟩) <|
  .cons (.inl ⟨rfl, r_tally_Choose⟩) <|
  .cons (.inl ⟨rfl, r_change_step_lead⟩) <|
  .cons (.inl ⟨rfl, r_client_entry⟩) <|
  .cons (.inl ⟨rfl, r_ledger_New⟩) <|
  .cons (.inl ⟨rfl, r_ledger_Ledger_Do⟩) <|
  .cons (.inl ⟨rfl, r_ref04_Check⟩) <|
  .cons (.inl ⟨rfl, r_oplog_joined⟩) <|
  .cons (.inl ⟨rfl, r_oplog_Each_1⟩) <|
  .cons (.inl ⟨rfl, r_tally_box_mark_put⟩) <|
  .cons (.inl ⟨rfl, r_tally_box_ballot_put⟩) <|
  .cons (.inl ⟨rfl, r_tally_ballot_fresh⟩) <|
  .cons (.inl ⟨rfl, r_ledger_Ledger_Would⟩) <|
  .cons (.inl ⟨rfl, r_ledger_Ledger_put⟩) <|
  .cons (.inl ⟨rfl, r_tally_ack_above⟩) <|
  .cons (.inl ⟨rfl, r_tally_ack_draw⟩) <|
  .cons (.inl ⟨rfl, r_tally_ack_fresh⟩) <|
  .cons (.inl ⟨rfl, r_tally_ack_node⟩) <|
  .cons (.inl ⟨rfl, r_tally_mark_above⟩) <|
  .cons (.inl ⟨rfl, r_tally_mark_draw⟩) <|
  .cons (.inl ⟨rfl, r_tally_mark_fresh⟩) <|
  .cons (.inl ⟨rfl, r_tally_mark_node⟩) <|
  .cons (.inl ⟨rfl, r_tally_ballot_above⟩) <|
  .cons (.inl ⟨rfl, r_tally_ballot_draw⟩) <|
  .cons (.inl ⟨rfl, r_tally_ballot_node⟩) <|
  .cons (.inl ⟨rfl, r_tally_longer⟩) <|
  .cons (.inl ⟨rfl, r_tally_answer_above⟩) <|
  .cons (.inl ⟨rfl, r_tally_answer_draw⟩) <|
  .cons (.inl ⟨rfl, r_tally_answer_fresh⟩) <|
  .cons (.inl ⟨rfl, r_tally_answer_node⟩) <|
  .cons (.inl ⟨rfl, r_gosem_cut_vars⟩) <|
  .nil
theorem T_ok : ∀ f xf, T f = some xf → FOk Tryz.prog f xf := tbl_ok.look

end Go.Ax
