/-
  The table of this seat's functions.
-/
import Derived.Test.YtfoglingdnhjpaaGreatDoorXFs0
import Derived.Test.YtfoglingdnhjpaaGreatDoorXFs1
import Derived.Test.YtfoglingdnhjpaaGreatDoorXFs2
import Derived.Test.YtfoglingdnhjpaaGreatDoorXNv
import Derived.Test.YtfoglingdnhjpaaGreatDoorXGr
namespace Go.Ax
set_option linter.all false
open Go.Proofs

def xn_slices_Clone_Entry_Entry : XFunc := ⟨some (cloneNv 50 5 false), none, false, 0, [], .skip⟩
def xn_slices_Clone_Vector_Draw : XFunc := ⟨some (cloneNv 26 2 false), none, false, 0, [], .skip⟩
def xn_slices_Clone_Ack_Ack : XFunc := ⟨some (cloneNv 123 4 false), none, false, 0, [], .skip⟩
def xn_slices_Clone_Mark_Mark : XFunc := ⟨some (cloneNv 125 3 false), none, false, 0, [], .skip⟩
def xn_slices_Clone_Ballot_Ballot : XFunc := ⟨some (cloneNv 98 6 true), none, false, 0, [], .skip⟩
def xn_slices_Clone_Answer_Answer : XFunc := ⟨some (cloneNv 100 6 true), none, false, 0, [], .skip⟩
def xn_oplog_Check : XFunc := ⟨some (checkNv), none, false, 0, [], .skip⟩
def tbl : List (Nat × XFunc) := [(3, xf_law12_RejoinStarts), (4, xf_law12_RejoinRecoveries), (5, xf_law12_RejoinResponses), (7, xf_law12_RejoinGets), (8, xf_law12_RejoinNews), (11, xf_law12_RejoinAsks), (13, xf_rejoin_Start), (14, xf_ref12_Start), (15, xf_law12_same), (16, xf_law12_works), (17, xf_rejoin_Recovery), (18, xf_plain_Given_State), (19, xf_plain_Given_Msg), (20, xf_ref12_Recovery), (21, xf_plain_Given_Intact), (22, xf_rejoin_Response), (23, xf_ref12_Response), (24, xf_ref09_Check), (25, xf_ref07_Check), (26, xf_ref02_Compare), (27, xf_plain_SameEntries), (28, xf_rejoin_GetState), (29, xf_ref12_GetState), (30, xf_rejoin_NewState), (31, xf_ref12_NewState), (34, xf_plain_SameVector), (35, xf_plain_CopyVector), (36, xf_ref09_Pruned), (37, xf_ref09_One), (38, xf_plain_SameState), (39, xf_rejoin_Ask), (40, xf_ref12_Ask), (43, xf_core_Reborn), (44, xf_rejoin_asking), (45, xf_ref09_Reborn), (46, xf_ref12_recovery), (47, xf_plain_SameSends), (48, xf_rejoin_run), (49, xf_plain_CopyState), (50, xf_plain_Given_Entries), (51, xf_plain_Given_Vector), (52, xf_ref10_Head), (53, xf_ref12_normal), (54, xf_ref10_Leads), (55, xf_ref12_one), (58, xf_ref09_Admit), (59, xf_ref08_PutAnswer), (60, xf_ref08_Settle), (61, xf_ref12_taken), (62, xf_ref09_CheckConfig), (63, xf_ref09_may), (64, xf_ref07_Config), (65, xf_ref07_Uses), (66, xf_ref07_unused), (67, xf_ref07_fields), (68, xf_ref09_below), (69, xf_ref09_Nodes), (70, xf_ref09_stamped), (71, xf_plain_sameAcks), (72, xf_plain_sameMarks), (73, xf_plain_SameBallots), (74, xf_plain_SameAnswers), (75, xf_core_Check), (76, xf_core_Wait), (78, xf_core_self), (79, xf_vector_New), (80, xf_core_Nodes), (81, xf_core_All), (82, xf_ref09_self), (83, xf_ref09_All), (84, xf_plain_SameMsg), (86, xf_rejoin_must), (87, xf_message_Check), (88, xf_core_Admit), (89, xf_rejoin_step_recovery), (90, xf_rejoin_step_response), (91, xf_rejoin_step_getState), (92, xf_rejoin_step_newState), (93, xf_plain_CopyEntries), (94, xf_ref07_Between), (95, xf_ref08_takes), (96, xf_ref08_more), (97, xf_ref08_CopyAnswers), (98, xf_ref08_primary), (99, xf_ref06_Copy), (100, xf_ref09_logged), (101, xf_ref09_votes), (102, xf_ref09_recovering), (103, xf_ref05_Log), (104, xf_ref07_entry), (105, xf_ref07_result), (106, xf_plain_CopyMsg), (107, xf_core_CheckConfig), (108, xf_core_logged), (109, xf_core_voted), (110, xf_core_normal), (111, xf_core_changing), (112, xf_core_recovering), (113, xf_core_twin), (114, xf_core_leads), (115, xf_core_out), (116, xf_message_config), (117, xf_message_is), (118, xf_message_unused), (119, xf_message_numbers), (120, xf_message_asks), (121, xf_message_answers), (122, xf_message_reads), (123, xn_oplog_Check), (124, xf_message_Between), (125, xf_vector_Over), (126, xf_nonce_Compare), (127, xf_vector_Merge), (128, xf_tally_PruneAcks), (129, xf_tally_PruneMarks), (130, xf_tally_PruneBallots), (131, xf_tally_PruneAnswers), (132, xf_core_Primary), (133, xf_rejoin_part_one), (134, xf_tally_PutAnswer), (135, xf_tally_Settle), (136, xf_rejoin_part_take), (137, xf_ref09_voters), (138, xf_ref05_Entry), (139, xf_core_voters), (140, xn_slices_Clone_Entry_Entry), (141, xn_slices_Clone_Vector_Draw), (142, xn_slices_Clone_Ack_Ack), (143, xn_slices_Clone_Mark_Mark), (144, xn_slices_Clone_Ballot_Ballot), (145, xn_slices_Clone_Answer_Answer), (146, xf_message_short), (147, xf_ledger_Check), (148, xf_oplog_Each), (149, xf_oplog_fits), (150, xf_vector_speaks), (151, xf_vector_fits), (152, xf_tally_turned_ack_Ack), (153, xf_tally_turned_Ack_ack), (154, xf_tally_toAck), (155, xf_tally_box_ack_prune), (156, xf_tally_fromAck), (157, xf_tally_turned_mark_Mark), (158, xf_tally_turned_Mark_mark), (159, xf_tally_toMark), (160, xf_tally_box_mark_prune), (161, xf_tally_fromMark), (162, xf_tally_turned_ballot_Ballot), (163, xf_tally_turned_Ballot_ballot), (164, xf_tally_toBallot), (165, xf_tally_box_ballot_prune), (166, xf_tally_fromBallot), (167, xf_tally_turned_answer_Answer), (168, xf_tally_turned_Answer_answer), (169, xf_tally_toAnswer), (170, xf_tally_box_answer_prune), (171, xf_tally_fromAnswer), (172, xf_core_One), (173, xf_tally_box_answer_put), (174, xf_tally_answer_fresh), (175, xf_ref04_Check), (176, xf_oplog_joined), (177, xf_oplog_Each_1), (193, xf_tally_ack_above), (194, xf_tally_ack_draw), (195, xf_tally_ack_fresh), (196, xf_tally_ack_node), (198, xf_tally_mark_above), (199, xf_tally_mark_draw), (200, xf_tally_mark_fresh), (201, xf_tally_mark_node), (203, xf_tally_ballot_above), (204, xf_tally_ballot_draw), (205, xf_tally_ballot_fresh), (206, xf_tally_ballot_node), (207, xf_tally_longer), (209, xf_tally_answer_above), (210, xf_tally_answer_draw), (211, xf_tally_answer_node), (217, xf_gosem_cut_vars)]
def T (f : Nat) : Option XFunc := lookT tbl f
@[simp] theorem T_3 : lookT tbl 3 = some xf_law12_RejoinStarts := by kernel_rfl
@[simp] theorem T_4 : lookT tbl 4 = some xf_law12_RejoinRecoveries := by kernel_rfl
@[simp] theorem T_5 : lookT tbl 5 = some xf_law12_RejoinResponses := by kernel_rfl
@[simp] theorem T_7 : lookT tbl 7 = some xf_law12_RejoinGets := by kernel_rfl
@[simp] theorem T_8 : lookT tbl 8 = some xf_law12_RejoinNews := by kernel_rfl
@[simp] theorem T_11 : lookT tbl 11 = some xf_law12_RejoinAsks := by kernel_rfl
@[simp] theorem T_13 : lookT tbl 13 = some xf_rejoin_Start := by kernel_rfl
@[simp] theorem T_14 : lookT tbl 14 = some xf_ref12_Start := by kernel_rfl
@[simp] theorem T_15 : lookT tbl 15 = some xf_law12_same := by kernel_rfl
@[simp] theorem T_16 : lookT tbl 16 = some xf_law12_works := by kernel_rfl
@[simp] theorem T_17 : lookT tbl 17 = some xf_rejoin_Recovery := by kernel_rfl
@[simp] theorem T_18 : lookT tbl 18 = some xf_plain_Given_State := by kernel_rfl
@[simp] theorem T_19 : lookT tbl 19 = some xf_plain_Given_Msg := by kernel_rfl
@[simp] theorem T_20 : lookT tbl 20 = some xf_ref12_Recovery := by kernel_rfl
@[simp] theorem T_21 : lookT tbl 21 = some xf_plain_Given_Intact := by kernel_rfl
@[simp] theorem T_22 : lookT tbl 22 = some xf_rejoin_Response := by kernel_rfl
@[simp] theorem T_23 : lookT tbl 23 = some xf_ref12_Response := by kernel_rfl
@[simp] theorem T_24 : lookT tbl 24 = some xf_ref09_Check := by kernel_rfl
@[simp] theorem T_25 : lookT tbl 25 = some xf_ref07_Check := by kernel_rfl
@[simp] theorem T_26 : lookT tbl 26 = some xf_ref02_Compare := by kernel_rfl
@[simp] theorem T_27 : lookT tbl 27 = some xf_plain_SameEntries := by kernel_rfl
@[simp] theorem T_28 : lookT tbl 28 = some xf_rejoin_GetState := by kernel_rfl
@[simp] theorem T_29 : lookT tbl 29 = some xf_ref12_GetState := by kernel_rfl
@[simp] theorem T_30 : lookT tbl 30 = some xf_rejoin_NewState := by kernel_rfl
@[simp] theorem T_31 : lookT tbl 31 = some xf_ref12_NewState := by kernel_rfl
@[simp] theorem T_34 : lookT tbl 34 = some xf_plain_SameVector := by kernel_rfl
@[simp] theorem T_35 : lookT tbl 35 = some xf_plain_CopyVector := by kernel_rfl
@[simp] theorem T_36 : lookT tbl 36 = some xf_ref09_Pruned := by kernel_rfl
@[simp] theorem T_37 : lookT tbl 37 = some xf_ref09_One := by kernel_rfl
@[simp] theorem T_38 : lookT tbl 38 = some xf_plain_SameState := by kernel_rfl
@[simp] theorem T_39 : lookT tbl 39 = some xf_rejoin_Ask := by kernel_rfl
@[simp] theorem T_40 : lookT tbl 40 = some xf_ref12_Ask := by kernel_rfl
@[simp] theorem T_43 : lookT tbl 43 = some xf_core_Reborn := by kernel_rfl
@[simp] theorem T_44 : lookT tbl 44 = some xf_rejoin_asking := by kernel_rfl
@[simp] theorem T_45 : lookT tbl 45 = some xf_ref09_Reborn := by kernel_rfl
@[simp] theorem T_46 : lookT tbl 46 = some xf_ref12_recovery := by kernel_rfl
@[simp] theorem T_47 : lookT tbl 47 = some xf_plain_SameSends := by kernel_rfl
@[simp] theorem T_48 : lookT tbl 48 = some xf_rejoin_run := by kernel_rfl
@[simp] theorem T_49 : lookT tbl 49 = some xf_plain_CopyState := by kernel_rfl
@[simp] theorem T_50 : lookT tbl 50 = some xf_plain_Given_Entries := by kernel_rfl
@[simp] theorem T_51 : lookT tbl 51 = some xf_plain_Given_Vector := by kernel_rfl
@[simp] theorem T_52 : lookT tbl 52 = some xf_ref10_Head := by kernel_rfl
@[simp] theorem T_53 : lookT tbl 53 = some xf_ref12_normal := by kernel_rfl
@[simp] theorem T_54 : lookT tbl 54 = some xf_ref10_Leads := by kernel_rfl
@[simp] theorem T_55 : lookT tbl 55 = some xf_ref12_one := by kernel_rfl
@[simp] theorem T_58 : lookT tbl 58 = some xf_ref09_Admit := by kernel_rfl
@[simp] theorem T_59 : lookT tbl 59 = some xf_ref08_PutAnswer := by kernel_rfl
@[simp] theorem T_60 : lookT tbl 60 = some xf_ref08_Settle := by kernel_rfl
@[simp] theorem T_61 : lookT tbl 61 = some xf_ref12_taken := by kernel_rfl
@[simp] theorem T_62 : lookT tbl 62 = some xf_ref09_CheckConfig := by kernel_rfl
@[simp] theorem T_63 : lookT tbl 63 = some xf_ref09_may := by kernel_rfl
@[simp] theorem T_64 : lookT tbl 64 = some xf_ref07_Config := by kernel_rfl
@[simp] theorem T_65 : lookT tbl 65 = some xf_ref07_Uses := by kernel_rfl
@[simp] theorem T_66 : lookT tbl 66 = some xf_ref07_unused := by kernel_rfl
@[simp] theorem T_67 : lookT tbl 67 = some xf_ref07_fields := by kernel_rfl
@[simp] theorem T_68 : lookT tbl 68 = some xf_ref09_below := by kernel_rfl
@[simp] theorem T_69 : lookT tbl 69 = some xf_ref09_Nodes := by kernel_rfl
@[simp] theorem T_70 : lookT tbl 70 = some xf_ref09_stamped := by kernel_rfl
@[simp] theorem T_71 : lookT tbl 71 = some xf_plain_sameAcks := by kernel_rfl
@[simp] theorem T_72 : lookT tbl 72 = some xf_plain_sameMarks := by kernel_rfl
@[simp] theorem T_73 : lookT tbl 73 = some xf_plain_SameBallots := by kernel_rfl
@[simp] theorem T_74 : lookT tbl 74 = some xf_plain_SameAnswers := by kernel_rfl
@[simp] theorem T_75 : lookT tbl 75 = some xf_core_Check := by kernel_rfl
@[simp] theorem T_76 : lookT tbl 76 = some xf_core_Wait := by kernel_rfl
@[simp] theorem T_78 : lookT tbl 78 = some xf_core_self := by kernel_rfl
@[simp] theorem T_79 : lookT tbl 79 = some xf_vector_New := by kernel_rfl
@[simp] theorem T_80 : lookT tbl 80 = some xf_core_Nodes := by kernel_rfl
@[simp] theorem T_81 : lookT tbl 81 = some xf_core_All := by kernel_rfl
@[simp] theorem T_82 : lookT tbl 82 = some xf_ref09_self := by kernel_rfl
@[simp] theorem T_83 : lookT tbl 83 = some xf_ref09_All := by kernel_rfl
@[simp] theorem T_84 : lookT tbl 84 = some xf_plain_SameMsg := by kernel_rfl
@[simp] theorem T_86 : lookT tbl 86 = some xf_rejoin_must := by kernel_rfl
@[simp] theorem T_87 : lookT tbl 87 = some xf_message_Check := by kernel_rfl
@[simp] theorem T_88 : lookT tbl 88 = some xf_core_Admit := by kernel_rfl
@[simp] theorem T_89 : lookT tbl 89 = some xf_rejoin_step_recovery := by kernel_rfl
@[simp] theorem T_90 : lookT tbl 90 = some xf_rejoin_step_response := by kernel_rfl
@[simp] theorem T_91 : lookT tbl 91 = some xf_rejoin_step_getState := by kernel_rfl
@[simp] theorem T_92 : lookT tbl 92 = some xf_rejoin_step_newState := by kernel_rfl
@[simp] theorem T_93 : lookT tbl 93 = some xf_plain_CopyEntries := by kernel_rfl
@[simp] theorem T_94 : lookT tbl 94 = some xf_ref07_Between := by kernel_rfl
@[simp] theorem T_95 : lookT tbl 95 = some xf_ref08_takes := by kernel_rfl
@[simp] theorem T_96 : lookT tbl 96 = some xf_ref08_more := by kernel_rfl
@[simp] theorem T_97 : lookT tbl 97 = some xf_ref08_CopyAnswers := by kernel_rfl
@[simp] theorem T_98 : lookT tbl 98 = some xf_ref08_primary := by kernel_rfl
@[simp] theorem T_99 : lookT tbl 99 = some xf_ref06_Copy := by kernel_rfl
@[simp] theorem T_100 : lookT tbl 100 = some xf_ref09_logged := by kernel_rfl
@[simp] theorem T_101 : lookT tbl 101 = some xf_ref09_votes := by kernel_rfl
@[simp] theorem T_102 : lookT tbl 102 = some xf_ref09_recovering := by kernel_rfl
@[simp] theorem T_103 : lookT tbl 103 = some xf_ref05_Log := by kernel_rfl
@[simp] theorem T_104 : lookT tbl 104 = some xf_ref07_entry := by kernel_rfl
@[simp] theorem T_105 : lookT tbl 105 = some xf_ref07_result := by kernel_rfl
@[simp] theorem T_106 : lookT tbl 106 = some xf_plain_CopyMsg := by kernel_rfl
@[simp] theorem T_107 : lookT tbl 107 = some xf_core_CheckConfig := by kernel_rfl
@[simp] theorem T_108 : lookT tbl 108 = some xf_core_logged := by kernel_rfl
@[simp] theorem T_109 : lookT tbl 109 = some xf_core_voted := by kernel_rfl
@[simp] theorem T_110 : lookT tbl 110 = some xf_core_normal := by kernel_rfl
@[simp] theorem T_111 : lookT tbl 111 = some xf_core_changing := by kernel_rfl
@[simp] theorem T_112 : lookT tbl 112 = some xf_core_recovering := by kernel_rfl
@[simp] theorem T_113 : lookT tbl 113 = some xf_core_twin := by kernel_rfl
@[simp] theorem T_114 : lookT tbl 114 = some xf_core_leads := by kernel_rfl
@[simp] theorem T_115 : lookT tbl 115 = some xf_core_out := by kernel_rfl
@[simp] theorem T_116 : lookT tbl 116 = some xf_message_config := by kernel_rfl
@[simp] theorem T_117 : lookT tbl 117 = some xf_message_is := by kernel_rfl
@[simp] theorem T_118 : lookT tbl 118 = some xf_message_unused := by kernel_rfl
@[simp] theorem T_119 : lookT tbl 119 = some xf_message_numbers := by kernel_rfl
@[simp] theorem T_120 : lookT tbl 120 = some xf_message_asks := by kernel_rfl
@[simp] theorem T_121 : lookT tbl 121 = some xf_message_answers := by kernel_rfl
@[simp] theorem T_122 : lookT tbl 122 = some xf_message_reads := by kernel_rfl
@[simp] theorem T_123 : lookT tbl 123 = some xn_oplog_Check := by kernel_rfl
@[simp] theorem T_124 : lookT tbl 124 = some xf_message_Between := by kernel_rfl
@[simp] theorem T_125 : lookT tbl 125 = some xf_vector_Over := by kernel_rfl
@[simp] theorem T_126 : lookT tbl 126 = some xf_nonce_Compare := by kernel_rfl
@[simp] theorem T_127 : lookT tbl 127 = some xf_vector_Merge := by kernel_rfl
@[simp] theorem T_128 : lookT tbl 128 = some xf_tally_PruneAcks := by kernel_rfl
@[simp] theorem T_129 : lookT tbl 129 = some xf_tally_PruneMarks := by kernel_rfl
@[simp] theorem T_130 : lookT tbl 130 = some xf_tally_PruneBallots := by kernel_rfl
@[simp] theorem T_131 : lookT tbl 131 = some xf_tally_PruneAnswers := by kernel_rfl
@[simp] theorem T_132 : lookT tbl 132 = some xf_core_Primary := by kernel_rfl
@[simp] theorem T_133 : lookT tbl 133 = some xf_rejoin_part_one := by kernel_rfl
@[simp] theorem T_134 : lookT tbl 134 = some xf_tally_PutAnswer := by kernel_rfl
@[simp] theorem T_135 : lookT tbl 135 = some xf_tally_Settle := by kernel_rfl
@[simp] theorem T_136 : lookT tbl 136 = some xf_rejoin_part_take := by kernel_rfl
@[simp] theorem T_137 : lookT tbl 137 = some xf_ref09_voters := by kernel_rfl
@[simp] theorem T_138 : lookT tbl 138 = some xf_ref05_Entry := by kernel_rfl
@[simp] theorem T_139 : lookT tbl 139 = some xf_core_voters := by kernel_rfl
@[simp] theorem T_140 : lookT tbl 140 = some xn_slices_Clone_Entry_Entry := by kernel_rfl
@[simp] theorem T_141 : lookT tbl 141 = some xn_slices_Clone_Vector_Draw := by kernel_rfl
@[simp] theorem T_142 : lookT tbl 142 = some xn_slices_Clone_Ack_Ack := by kernel_rfl
@[simp] theorem T_143 : lookT tbl 143 = some xn_slices_Clone_Mark_Mark := by kernel_rfl
@[simp] theorem T_144 : lookT tbl 144 = some xn_slices_Clone_Ballot_Ballot := by kernel_rfl
@[simp] theorem T_145 : lookT tbl 145 = some xn_slices_Clone_Answer_Answer := by kernel_rfl
@[simp] theorem T_146 : lookT tbl 146 = some xf_message_short := by kernel_rfl
@[simp] theorem T_147 : lookT tbl 147 = some xf_ledger_Check := by kernel_rfl
@[simp] theorem T_148 : lookT tbl 148 = some xf_oplog_Each := by kernel_rfl
@[simp] theorem T_149 : lookT tbl 149 = some xf_oplog_fits := by kernel_rfl
@[simp] theorem T_150 : lookT tbl 150 = some xf_vector_speaks := by kernel_rfl
@[simp] theorem T_151 : lookT tbl 151 = some xf_vector_fits := by kernel_rfl
@[simp] theorem T_152 : lookT tbl 152 = some xf_tally_turned_ack_Ack := by kernel_rfl
@[simp] theorem T_153 : lookT tbl 153 = some xf_tally_turned_Ack_ack := by kernel_rfl
@[simp] theorem T_154 : lookT tbl 154 = some xf_tally_toAck := by kernel_rfl
@[simp] theorem T_155 : lookT tbl 155 = some xf_tally_box_ack_prune := by kernel_rfl
@[simp] theorem T_156 : lookT tbl 156 = some xf_tally_fromAck := by kernel_rfl
@[simp] theorem T_157 : lookT tbl 157 = some xf_tally_turned_mark_Mark := by kernel_rfl
@[simp] theorem T_158 : lookT tbl 158 = some xf_tally_turned_Mark_mark := by kernel_rfl
@[simp] theorem T_159 : lookT tbl 159 = some xf_tally_toMark := by kernel_rfl
@[simp] theorem T_160 : lookT tbl 160 = some xf_tally_box_mark_prune := by kernel_rfl
@[simp] theorem T_161 : lookT tbl 161 = some xf_tally_fromMark := by kernel_rfl
@[simp] theorem T_162 : lookT tbl 162 = some xf_tally_turned_ballot_Ballot := by kernel_rfl
@[simp] theorem T_163 : lookT tbl 163 = some xf_tally_turned_Ballot_ballot := by kernel_rfl
@[simp] theorem T_164 : lookT tbl 164 = some xf_tally_toBallot := by kernel_rfl
@[simp] theorem T_165 : lookT tbl 165 = some xf_tally_box_ballot_prune := by kernel_rfl
@[simp] theorem T_166 : lookT tbl 166 = some xf_tally_fromBallot := by kernel_rfl
@[simp] theorem T_167 : lookT tbl 167 = some xf_tally_turned_answer_Answer := by kernel_rfl
@[simp] theorem T_168 : lookT tbl 168 = some xf_tally_turned_Answer_answer := by kernel_rfl
@[simp] theorem T_169 : lookT tbl 169 = some xf_tally_toAnswer := by kernel_rfl
@[simp] theorem T_170 : lookT tbl 170 = some xf_tally_box_answer_prune := by kernel_rfl
@[simp] theorem T_171 : lookT tbl 171 = some xf_tally_fromAnswer := by kernel_rfl
@[simp] theorem T_172 : lookT tbl 172 = some xf_core_One := by kernel_rfl
@[simp] theorem T_173 : lookT tbl 173 = some xf_tally_box_answer_put := by kernel_rfl
@[simp] theorem T_174 : lookT tbl 174 = some xf_tally_answer_fresh := by kernel_rfl
@[simp] theorem T_175 : lookT tbl 175 = some xf_ref04_Check := by kernel_rfl
@[simp] theorem T_176 : lookT tbl 176 = some xf_oplog_joined := by kernel_rfl
@[simp] theorem T_177 : lookT tbl 177 = some xf_oplog_Each_1 := by kernel_rfl
@[simp] theorem T_193 : lookT tbl 193 = some xf_tally_ack_above := by kernel_rfl
@[simp] theorem T_194 : lookT tbl 194 = some xf_tally_ack_draw := by kernel_rfl
@[simp] theorem T_195 : lookT tbl 195 = some xf_tally_ack_fresh := by kernel_rfl
@[simp] theorem T_196 : lookT tbl 196 = some xf_tally_ack_node := by kernel_rfl
@[simp] theorem T_198 : lookT tbl 198 = some xf_tally_mark_above := by kernel_rfl
@[simp] theorem T_199 : lookT tbl 199 = some xf_tally_mark_draw := by kernel_rfl
@[simp] theorem T_200 : lookT tbl 200 = some xf_tally_mark_fresh := by kernel_rfl
@[simp] theorem T_201 : lookT tbl 201 = some xf_tally_mark_node := by kernel_rfl
@[simp] theorem T_203 : lookT tbl 203 = some xf_tally_ballot_above := by kernel_rfl
@[simp] theorem T_204 : lookT tbl 204 = some xf_tally_ballot_draw := by kernel_rfl
@[simp] theorem T_205 : lookT tbl 205 = some xf_tally_ballot_fresh := by kernel_rfl
@[simp] theorem T_206 : lookT tbl 206 = some xf_tally_ballot_node := by kernel_rfl
@[simp] theorem T_207 : lookT tbl 207 = some xf_tally_longer := by kernel_rfl
@[simp] theorem T_209 : lookT tbl 209 = some xf_tally_answer_above := by kernel_rfl
@[simp] theorem T_210 : lookT tbl 210 = some xf_tally_answer_draw := by kernel_rfl
@[simp] theorem T_211 : lookT tbl 211 = some xf_tally_answer_node := by kernel_rfl
@[simp] theorem T_217 : lookT tbl 217 = some xf_gosem_cut_vars := by kernel_rfl
theorem tc {k : Nat} {x : XFunc} {r : List (Nat × XFunc)} (h : progT Tryz.prog k = some x.plain) (t : AllOk Tryz.prog r) (a : x.nv = none := by rfl) (b : x.grd = none := by rfl) : AllOk Tryz.prog ((k, x) :: r) := .cons (.inl ⟨a, b, h⟩) t

set_option maxRecDepth 100000
theorem tbl_ok : AllOk Tryz.prog tbl :=
 tc r_law12_RejoinStarts <|
 tc r_law12_RejoinRecoveries <|
 tc r_law12_RejoinResponses <|
 tc r_law12_RejoinGets <|
 tc r_law12_RejoinNews <|
 tc r_law12_RejoinAsks <|
 tc r_rejoin_Start <|
 tc r_ref12_Start <|
 tc r_law12_same <|
 tc r_law12_works <|
 tc r_rejoin_Recovery <|
 tc r_plain_Given_State <|
 tc r_plain_Given_Msg <|
 tc r_ref12_Recovery <|
 tc r_plain_Given_Intact <|
 tc r_rejoin_Response <|
 tc r_ref12_Response <|
 tc r_ref09_Check <|
 tc r_ref07_Check <|
 tc r_ref02_Compare <|
 tc r_plain_SameEntries <|
 tc r_rejoin_GetState <|
 tc r_ref12_GetState <|
 tc r_rejoin_NewState <|
 tc r_ref12_NewState <|
 tc r_plain_SameVector <|
 tc r_plain_CopyVector <|
 tc r_ref09_Pruned <|
 tc r_ref09_One <|
 tc r_plain_SameState <|
 tc r_rejoin_Ask <|
 tc r_ref12_Ask <|
 tc r_core_Reborn <|
 tc r_rejoin_asking <|
 tc r_ref09_Reborn <|
 tc r_ref12_recovery <|
 tc r_plain_SameSends <|
 .cons (.inr (.inr ⟨_, rfl, rfl, grd_rejoin_run⟩)) <|
 tc r_plain_CopyState <|
 tc r_plain_Given_Entries <|
 tc r_plain_Given_Vector <|
 tc r_ref10_Head <|
 tc r_ref12_normal <|
 tc r_ref10_Leads <|
 tc r_ref12_one <|
 tc r_ref09_Admit <|
 tc r_ref08_PutAnswer <|
 tc r_ref08_Settle <|
 tc r_ref12_taken <|
 tc r_ref09_CheckConfig <|
 tc r_ref09_may <|
 tc r_ref07_Config <|
 tc r_ref07_Uses <|
 tc r_ref07_unused <|
 tc r_ref07_fields <|
 tc r_ref09_below <|
 tc r_ref09_Nodes <|
 tc r_ref09_stamped <|
 tc r_plain_sameAcks <|
 tc r_plain_sameMarks <|
 tc r_plain_SameBallots <|
 tc r_plain_SameAnswers <|
 tc r_core_Check <|
 tc r_core_Wait <|
 tc r_core_self <|
 tc r_vector_New <|
 tc r_core_Nodes <|
 tc r_core_All <|
 tc r_ref09_self <|
 tc r_ref09_All <|
 tc r_plain_SameMsg <|
 tc r_rejoin_must <|
 tc r_message_Check <|
 tc r_core_Admit <|
 tc r_rejoin_step_recovery <|
 tc r_rejoin_step_response <|
 tc r_rejoin_step_getState <|
 tc r_rejoin_step_newState <|
 tc r_plain_CopyEntries <|
 tc r_ref07_Between <|
 tc r_ref08_takes <|
 tc r_ref08_more <|
 tc r_ref08_CopyAnswers <|
 tc r_ref08_primary <|
 tc r_ref06_Copy <|
 tc r_ref09_logged <|
 tc r_ref09_votes <|
 tc r_ref09_recovering <|
 tc r_ref05_Log <|
 tc r_ref07_entry <|
 tc r_ref07_result <|
 tc r_plain_CopyMsg <|
 tc r_core_CheckConfig <|
 tc r_core_logged <|
 tc r_core_voted <|
 tc r_core_normal <|
 tc r_core_changing <|
 tc r_core_recovering <|
 tc r_core_twin <|
 tc r_core_leads <|
 tc r_core_out <|
 tc r_message_config <|
 tc r_message_is <|
 tc r_message_unused <|
 tc r_message_numbers <|
 tc r_message_asks <|
 tc r_message_answers <|
 tc r_message_reads <|
 .cons (.inr (.inl ⟨_, rfl, nv_oplog_Check⟩)) <|
 tc r_message_Between <|
 tc r_vector_Over <|
 tc r_nonce_Compare <|
 tc r_vector_Merge <|
 tc r_tally_PruneAcks <|
 tc r_tally_PruneMarks <|
 tc r_tally_PruneBallots <|
 tc r_tally_PruneAnswers <|
 tc r_core_Primary <|
 tc r_rejoin_part_one <|
 tc r_tally_PutAnswer <|
 tc r_tally_Settle <|
 tc r_rejoin_part_take <|
 tc r_ref09_voters <|
 tc r_ref05_Entry <|
 tc r_core_voters <|
 .cons (.inr (.inl ⟨_, rfl, nv_slices_Clone_Entry_Entry⟩)) <|
 .cons (.inr (.inl ⟨_, rfl, nv_slices_Clone_Vector_Draw⟩)) <|
 .cons (.inr (.inl ⟨_, rfl, nv_slices_Clone_Ack_Ack⟩)) <|
 .cons (.inr (.inl ⟨_, rfl, nv_slices_Clone_Mark_Mark⟩)) <|
 .cons (.inr (.inl ⟨_, rfl, nv_slices_Clone_Ballot_Ballot⟩)) <|
 .cons (.inr (.inl ⟨_, rfl, nv_slices_Clone_Answer_Answer⟩)) <|
 tc r_message_short <|
 tc r_ledger_Check <|
 tc r_oplog_Each <|
 tc r_oplog_fits <|
 tc r_vector_speaks <|
 tc r_vector_fits <|
 tc r_tally_turned_ack_Ack <|
 tc r_tally_turned_Ack_ack <|
 tc r_tally_toAck <|
 tc r_tally_box_ack_prune <|
 tc r_tally_fromAck <|
 tc r_tally_turned_mark_Mark <|
 tc r_tally_turned_Mark_mark <|
 tc r_tally_toMark <|
 tc r_tally_box_mark_prune <|
 tc r_tally_fromMark <|
 tc r_tally_turned_ballot_Ballot <|
 tc r_tally_turned_Ballot_ballot <|
 tc r_tally_toBallot <|
 tc r_tally_box_ballot_prune <|
 tc r_tally_fromBallot <|
 tc r_tally_turned_answer_Answer <|
 tc r_tally_turned_Answer_answer <|
 tc r_tally_toAnswer <|
 tc r_tally_box_answer_prune <|
 tc r_tally_fromAnswer <|
 tc r_core_One <|
 tc r_tally_box_answer_put <|
 tc r_tally_answer_fresh <|
 tc r_ref04_Check <|
 tc r_oplog_joined <|
 tc r_oplog_Each_1 <|
 tc r_tally_ack_above <|
 tc r_tally_ack_draw <|
 tc r_tally_ack_fresh <|
 tc r_tally_ack_node <|
 tc r_tally_mark_above <|
 tc r_tally_mark_draw <|
 tc r_tally_mark_fresh <|
 tc r_tally_mark_node <|
 tc r_tally_ballot_above <|
 tc r_tally_ballot_draw <|
 tc r_tally_ballot_fresh <|
 tc r_tally_ballot_node <|
 tc r_tally_longer <|
 tc r_tally_answer_above <|
 tc r_tally_answer_draw <|
 tc r_tally_answer_node <|
 tc r_gosem_cut_vars <|
  .nil
theorem T_ok : ∀ f xf, T f = some xf → FOk Tryz.prog f xf := tbl_ok.look

end Go.Ax
