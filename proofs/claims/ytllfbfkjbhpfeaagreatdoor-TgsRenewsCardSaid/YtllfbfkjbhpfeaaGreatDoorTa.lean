/- The program's functions as the abstract machine's code, by a program of ours. -/
import Derived.Test.YtllfbfkjbhpfeaaGreatDoorDb
import Derived.Test.YtllfbfkjbhpfeaaGreatDoorDc
set_option linter.unusedSimpArgs false
set_option linter.unusedVariables false
set_option linter.unusedSectionVars false
namespace Go.Dm.T
abbrev n_law28_TgsRenews : Nat := 6
abbrev n_law28_TgsVoid : Nat := 8
abbrev n_law28_short : Nat := 9
abbrev n_tgs_Ask : Nat := 10
abbrev n_tgs_Asked : Nat := 13
abbrev n_base_Bytes : Nat := 14
abbrev n_tgs_Renewed : Nat := 16
abbrev n_base_SameBytes : Nat := 18
abbrev n_law28_same : Nat := 19
abbrev n_law28_works : Nat := 20
abbrev n_law28_books : Nat := 21
abbrev n_tgs_Make : Nat := 22
abbrev n_tgs_Server_Grant : Nat := 25
abbrev n_base_Among : Nat := 27
abbrev n_law28_key : Nat := 28
abbrev n_ticket_Bytes : Nat := 29
abbrev n_ticket_Seal : Nat := 30
abbrev n_tgs_Want_numbers : Nat := 31
abbrev n_wire_Int : Nat := 32
abbrev n_wire_Put : Nat := 33
abbrev n_wire_Read : Nat := 38
abbrev n_wire_ReadInt : Nat := 39
abbrev n_tgs_times : Nat := 42
abbrev n_law28_granting : Nat := 44
abbrev n_who_Make : Nat := 45
abbrev n_ref19_Make : Nat := 46
abbrev n_who_Book_Add : Nat := 47
abbrev n_ref19_Book_Add : Nat := 48
abbrev n_who_Book_Find : Nat := 49
abbrev n_cache_MakeReplay : Nat := 50
abbrev n_tgs_opened : Nat := 52
abbrev n_errors_Is : Nat := 53
abbrev n_tgs_Server_judge : Nat := 54
abbrev n_ticket_look : Nat := 61
abbrev n_ticket_number : Nat := 62
abbrev n_ticket_value : Nat := 63
abbrev n_ticket_right : Nat := 64
abbrev n_seal_Seal : Nat := 65
abbrev n_wire_check : Nat := 66
abbrev n_wire_number : Nat := 67
abbrev n_wire_cut : Nat := 71
abbrev n_who_Book_is : Nat := 72
abbrev n_who_named : Nat := 73
abbrev n_who_times : Nat := 74
abbrev n_who_Person_own : Nat := 75
abbrev n_ref19_Name : Nat := 76
abbrev n_ref19_time : Nat := 77
abbrev n_ref19_Book_Find : Nat := 78
abbrev n_cache_right : Nat := 79
abbrev n_cache_times : Nat := 80
abbrev n_ticket_Read : Nat := 83
abbrev n_ticket_Open : Nat := 84
abbrev n_errors_Join : Nat := 85
abbrev n_reflectlite_TypeOf : Nat := 86
abbrev n_errors_is : Nat := 87
abbrev n_ticket_Judge : Nat := 88
abbrev n_strconv_Itoa_89 : Nat := 89
abbrev n_cache_Replay_See : Nat := 90
abbrev n_tgs_Server_fresh : Nat := 91
abbrev n_ticket_names : Nat := 97
abbrev n_ticket_times : Nat := 98
abbrev n_seal_keys : Nat := 99
abbrev n_seal_pair_chain : Nat := 100
abbrev n_seal_swap : Nat := 101
abbrev n_seal_pair_tag : Nat := 102
abbrev n_slices_ContainsFunc___int_int_ : Nat := 109
abbrev n_cache_times_1 : Nat := 110
abbrev n_ticket_fields : Nat := 111
abbrev n_ticket_numbers : Nat := 112
abbrev n_seal_Open : Nat := 113
abbrev n_ticket_late : Nat := 114
abbrev n_strconv_Itoa_115 : Nat := 115
abbrev n_cache_Replay_is : Nat := 116
abbrev n_cache_Replay_Has : Nat := 117
abbrev n_who_Book_Grant : Nat := 118
abbrev n_tgs_trim : Nat := 119
abbrev n_mac_Expand : Nat := 123
abbrev n_aes_Encrypt : Nat := 124
abbrev n_seal_xor : Nat := 125
abbrev n_mac_Sum : Nat := 126
abbrev n_slices_IndexFunc___int_int_ : Nat := 137
abbrev n_seal_look : Nat := 138
abbrev n_seal_number : Nat := 139
abbrev n_seal_pair_whole : Nat := 140
abbrev n_aes_Decrypt : Nat := 141
abbrev n_strconv_FormatInt : Nat := 142
abbrev n_who_refused : Nat := 143
abbrev n_aes_start : Nat := 144
abbrev n_aes_block_xor : Nat := 145
abbrev n_aes_box : Nat := 146
abbrev n_aes_block_turn : Nat := 147
abbrev n_aes_block_mix : Nat := 148
abbrev n_sha_Parts : Nat := 149
abbrev n_mac_padded : Nat := 150
abbrev n_mac_Same : Nat := 156
abbrev n_aes_back : Nat := 157
abbrev n_strconv_small : Nat := 158
abbrev n_strconv_numDigits : Nat := 159
abbrev n_strconv_formatBase10 : Nat := 160
abbrev n_strconv_formatBits : Nat := 161
abbrev n_aes_Keys : Nat := 162
abbrev n_aes_Times : Nat := 163
abbrev n_sha_Sum : Nat := 164
abbrev n_aes_twice : Nat := 173
abbrev n_sha_first : Nat := 174
abbrev n_sha_Pad : Nat := 175
abbrev n_sha_Block : Nat := 176
abbrev n_sha_words : Nat := 183
abbrev n_sha_right : Nat := 184
abbrev n_math_bits_RotateLeft32 : Nat := 185
abbrev n_ticket_bad_Unwrap : Nat := 206
abbrev n_errors_joinError_Unwrap : Nat := 209
abbrev n_reflectlite_rtype_Comparable : Nat := 212
abbrev n_seal_refusal_Unwrap : Nat := 222
abbrev t_0 : Nat := 0
abbrev t_runtime_boundsError : Nat := 8
abbrev t_runtime_errorString : Nat := 10
abbrev t_runtime_plainError : Nat := 11
abbrev t_runtime_errorAddressString : Nat := 14
abbrev t_P_runtime_TypeAssertionError : Nat := 15
abbrev t_P_runtime_PanicNilError : Nat := 16
abbrev t_P_abi_Type : Nat := 17
abbrev t_maps_unhashableTypeError : Nat := 19
abbrev t_tgs_Want : Nat := 26
abbrev t_api_Errno : Nat := 29
abbrev t_P_who_Book : Nat := 47
abbrev t_P_ref19_Book : Nat := 48
abbrev t_P_tgs_Server : Nat := 51
abbrev t_P_ref28_Server : Nat := 54
abbrev t_law28_Shot : Nat := 59
abbrev t_P_cache_Replay : Nat := 70
abbrev t_who_Person : Nat := 96
abbrev t_P_ref21_Replay : Nat := 105
abbrev t_ticket_bad : Nat := 174
abbrev t_seal_pair : Nat := 177
abbrev t_P_wire_fault : Nat := 181
abbrev t_P_errors_joinError : Nat := 195
abbrev t_struct___P_abi_Type__ : Nat := 198
abbrev t_reflectlite_rtype : Nat := 199
abbrev t_P_reflectlite_ValueError : Nat := 200
abbrev t_seal_refusal : Nat := 212
abbrev t_reflectlite_flag : Nat := 218
abbrev t_struct___typ__P_abi_Type__ptr_unsafe_Pointer__reflectlite_flag__ : Nat := 219
abbrev t_reflectlite_Value : Nat := 220
abbrev t_abi_Kind : Nat := 223
abbrev t_P_aes_block : Nat := 240
abbrev t_P_abi_UncommonType : Nat := 304
abbrev g_errors_errorType : Nat := 0
abbrev g_strconv_uint64pow10 : Nat := 1
abbrev g_sha_constants : Nat := 2
abbrev g_math_bits_deBruijn32tab : Nat := 3
abbrev g_math_bits_deBruijn64tab : Nat := 4
def eqs : List TypeId := [t_api_Errno, t_reflectlite_flag, t_abi_Kind]
end Go.Dm.T
set_option maxRecDepth 100000
namespace Go.Dm.T
/-! seneschal/seneschallaw28.TgsRenews -/
def d_law28_TgsRenews : DFun := ⟨123, [true, true, true], [.tmp 6],
 .seq (.seqr [
  ⟨some 3, .op (.box 0 (.t 0)), none, 0, [], [], false⟩,
  ⟨some 6, .op (.mov (.c (.bool false))), none, 1, [], [], false⟩])
  (.seq (.seq (.seqr [
  ⟨some 11, .call n_law28_works [], none, 0, [], [], false⟩,
  ⟨some 12, .op (.un .not (.t 11)), none, 1, [], [], false⟩])
  (.cond (.t 12)
  (.seq (.seqr [
   ⟨some 6, .op (.mov (.c (.bool false))), none, 0, [], [], false⟩])
   (.ret))
  (.skip)))
  (.seq (.seqr [
  ⟨some 13, .op (.load 7 true (.t 3)), none, 0, [], [], false⟩,
  ⟨some 14, .call n_law28_short [(.t 13)], none, 1, [], [], false⟩,
  ⟨none, .op (.store 7 (.t 3) (.t 14)), none, 2, [], [], false⟩])
  (.seq (.seqr [
  ⟨some 16, .op (.load 7 true (.t 3)), none, 0, [], [], false⟩,
  ⟨some 17, .op (.mov (.t 1)), none, 1, [], [], false⟩,
  ⟨some 18, .call n_tgs_Renewed [(.t 16), (.t 17)], none, 2, [], [], false⟩,
  ⟨some 15, .op (.mov (.t 18)), none, 3, [], [], false⟩,
  ⟨some 19, .op (.ext 0 (.t 15)), none, 4, [], [], false⟩,
  ⟨some 20, .op (.ext 1 (.t 15)), none, 5, [], [], false⟩,
  ⟨some 7, .op (.alloc (.box [(.str []), (.str []), .nils, (.int .i64 0), (.int .i64 0), (.int .i64 0), (.int .i64 0)])), none, 6, [], [], false⟩,
  ⟨none, .op (.store 7 (.t 7) (.t 19)), none, 7, [], [], false⟩,
  ⟨some 8, .op (.mov (.t 20)), none, 8, [], [], false⟩])
  (.seq (.seq (.seqr [
  ⟨some 21, .op (.mov (.t 8)), none, 0, [], [], false⟩,
  ⟨some 22, .op (.bin .neq (.t 21) (.c (.int .i64 0))), none, 1, [], [], false⟩])
  (.cond (.t 22)
  (.seq (.seqr [
   ⟨some 23, .op (.load 7 true (.t 7)), none, 0, [], [], false⟩,
   ⟨some 24, .op (.build [(.str []), (.str []), .nils, (.int .i64 0), (.int .i64 0), (.int .i64 0), (.int .i64 0)] []), none, 1, [], [], false⟩,
   ⟨some 25, .call n_law28_same [(.t 23), (.t 24)], none, 2, [], [], false⟩,
   ⟨some 6, .op (.mov (.t 25)), none, 3, [], [], false⟩])
   (.ret))
  (.skip)))
  (.seq (.seq (.seqr [
  ⟨some 26, .op (.faddr 3 (.t 7)), none, 0, [], [], false⟩,
  ⟨some 27, .op (.load 1 false (.t 26)), none, 1, [], [], false⟩,
  ⟨some 28, .op (.mov (.t 1)), none, 2, [], [], false⟩,
  ⟨some 29, .op (.bin .neq (.t 27) (.t 28)), none, 3, [], [], false⟩,
  ⟨some 30, .op (.mov (.t 29)), none, 4, [], [], false⟩,
  ⟨some 31, .op (.faddr 4 (.t 7)), some (30, false), 5, [], [], false⟩,
  ⟨some 32, .op (.load 1 false (.t 31)), some (30, false), 6, [], [], false⟩,
  ⟨some 33, .op (.mov (.t 1)), some (30, false), 7, [], [], false⟩,
  ⟨some 34, .op (.bin .leq (.t 32) (.t 33)), some (30, false), 8, [], [], false⟩,
  ⟨some 35, .op (.pick (.t 30) (.c (.bool true)) (.t 34)), none, 9, [], [], false⟩,
  ⟨some 36, .op (.mov (.t 35)), none, 10, [], [], false⟩,
  ⟨some 37, .op (.faddr 4 (.t 7)), some (36, false), 11, [], [], false⟩,
  ⟨some 38, .op (.load 1 false (.t 37)), some (36, false), 12, [], [], false⟩,
  ⟨some 39, .op (.faddr 5 (.t 3)), some (36, false), 13, [], [], false⟩,
  ⟨some 40, .op (.load 1 false (.t 39)), some (36, false), 14, [], [], false⟩,
  ⟨some 41, .op (.bin .gtr (.t 38) (.t 40)), some (36, false), 15, [], [], false⟩,
  ⟨some 42, .op (.pick (.t 36) (.c (.bool true)) (.t 41)), none, 16, [], [], false⟩,
  ⟨some 43, .op (.mov (.t 42)), none, 17, [], [], false⟩,
  ⟨some 44, .op (.faddr 4 (.t 7)), some (43, false), 18, [], [], false⟩,
  ⟨some 45, .op (.load 1 false (.t 44)), some (43, false), 19, [], [], false⟩,
  ⟨some 46, .op (.faddr 3 (.t 7)), some (43, false), 20, [], [], false⟩,
  ⟨some 47, .op (.load 1 false (.t 46)), some (43, false), 21, [], [], false⟩,
  ⟨some 48, .op (.bin .sub (.t 45) (.t 47)), some (43, false), 22, [], [], false⟩,
  ⟨some 49, .op (.faddr 4 (.t 3)), some (43, false), 23, [], [], false⟩,
  ⟨some 50, .op (.load 1 false (.t 49)), some (43, false), 24, [], [], false⟩,
  ⟨some 51, .op (.faddr 3 (.t 3)), some (43, false), 25, [], [], false⟩,
  ⟨some 52, .op (.load 1 false (.t 51)), some (43, false), 26, [], [], false⟩,
  ⟨some 53, .op (.bin .sub (.t 50) (.t 52)), some (43, false), 27, [], [], false⟩,
  ⟨some 54, .op (.bin .gtr (.t 48) (.t 53)), some (43, false), 28, [], [], false⟩,
  ⟨some 55, .op (.pick (.t 43) (.c (.bool true)) (.t 54)), none, 29, [], [], false⟩,
  ⟨some 56, .op (.mov (.t 55)), none, 30, [], [], false⟩,
  ⟨some 57, .op (.faddr 5 (.t 7)), some (56, false), 31, [], [], false⟩,
  ⟨some 58, .op (.load 1 false (.t 57)), some (56, false), 32, [], [], false⟩,
  ⟨some 59, .op (.faddr 5 (.t 3)), some (56, false), 33, [], [], false⟩,
  ⟨some 60, .op (.load 1 false (.t 59)), some (56, false), 34, [], [], false⟩,
  ⟨some 61, .op (.bin .neq (.t 58) (.t 60)), some (56, false), 35, [], [], false⟩,
  ⟨some 62, .op (.pick (.t 56) (.c (.bool true)) (.t 61)), none, 36, [], [], false⟩,
  ⟨some 63, .op (.mov (.t 62)), none, 37, [], [], false⟩,
  ⟨some 64, .op (.faddr 6 (.t 7)), some (63, false), 38, [], [], false⟩,
  ⟨some 65, .op (.load 1 false (.t 64)), some (63, false), 39, [], [], false⟩,
  ⟨some 66, .op (.faddr 6 (.t 3)), some (63, false), 40, [], [], false⟩,
  ⟨some 67, .op (.load 1 false (.t 66)), some (63, false), 41, [], [], false⟩,
  ⟨some 68, .op (.bin .neq (.t 65) (.t 67)), some (63, false), 42, [], [], false⟩,
  ⟨some 69, .op (.pick (.t 63) (.c (.bool true)) (.t 68)), none, 43, [], [], false⟩,
  ⟨some 70, .op (.mov (.t 69)), none, 44, [], [], false⟩,
  ⟨some 71, .op (.faddr 0 (.t 7)), some (70, false), 45, [], [], false⟩,
  ⟨some 72, .op (.load 1 false (.t 71)), some (70, false), 46, [], [], false⟩,
  ⟨some 73, .op (.faddr 0 (.t 3)), some (70, false), 47, [], [], false⟩,
  ⟨some 74, .op (.load 1 false (.t 73)), some (70, false), 48, [], [], false⟩,
  ⟨some 75, .op (.bin .neq (.t 72) (.t 74)), some (70, false), 49, [], [], false⟩,
  ⟨some 76, .op (.pick (.t 70) (.c (.bool true)) (.t 75)), none, 50, [], [], false⟩,
  ⟨some 77, .op (.mov (.t 76)), none, 51, [], [], false⟩,
  ⟨some 78, .op (.faddr 1 (.t 7)), some (77, false), 52, [], [], false⟩,
  ⟨some 79, .op (.load 1 false (.t 78)), some (77, false), 53, [], [], false⟩,
  ⟨some 80, .op (.faddr 1 (.t 3)), some (77, false), 54, [], [], false⟩,
  ⟨some 81, .op (.load 1 false (.t 80)), some (77, false), 55, [], [], false⟩,
  ⟨some 82, .op (.bin .neq (.t 79) (.t 81)), some (77, false), 56, [], [], false⟩,
  ⟨some 83, .op (.pick (.t 77) (.c (.bool true)) (.t 82)), none, 57, [], [], false⟩])
  (.cond (.t 83)
  (.seq (.seqr [
   ⟨some 6, .op (.mov (.c (.bool false))), none, 0, [], [], false⟩])
   (.ret))
  (.skip)))
  (.seq (.seqr [
  ⟨some 84, .op (.mov (.t 1)), none, 0, [], [], false⟩,
  ⟨some 85, .op (.mov (.t 2)), none, 1, [], [], false⟩,
  ⟨some 86, .call n_base_Among [(.t 85), (.c (.int .i64 1000))], none, 2, [], [], false⟩,
  ⟨some 87, .op (.bin .add (.t 84) (.t 86)), none, 3, [], [], false⟩,
  ⟨some 2, .op (.mov (.t 87)), none, 4, [], [], false⟩])
  (.seq (.seqr [
  ⟨some 89, .op (.load 7 true (.t 7)), none, 0, [], [], false⟩,
  ⟨some 90, .op (.mov (.t 2)), none, 1, [], [], false⟩,
  ⟨some 91, .call n_tgs_Renewed [(.t 89), (.t 90)], none, 2, [], [], false⟩,
  ⟨some 88, .op (.mov (.t 91)), none, 3, [], [], false⟩,
  ⟨some 92, .op (.ext 0 (.t 88)), none, 4, [], [], false⟩,
  ⟨some 93, .op (.ext 1 (.t 88)), none, 5, [], [], false⟩,
  ⟨some 9, .op (.alloc (.box [(.str []), (.str []), .nils, (.int .i64 0), (.int .i64 0), (.int .i64 0), (.int .i64 0)])), none, 6, [], [], false⟩,
  ⟨none, .op (.store 7 (.t 9) (.t 92)), none, 7, [], [], false⟩,
  ⟨some 10, .op (.mov (.t 93)), none, 8, [], [], false⟩])
  (.seq (.seq (.seqr [
  ⟨some 94, .op (.mov (.t 2)), none, 0, [], [], false⟩,
  ⟨some 95, .op (.faddr 5 (.t 3)), none, 1, [], [], false⟩,
  ⟨some 96, .op (.load 1 false (.t 95)), none, 2, [], [], false⟩,
  ⟨some 97, .op (.bin .geq (.t 94) (.t 96)), none, 3, [], [], false⟩])
  (.cond (.t 97)
  (.seq (.seqr [
   ⟨some 98, .op (.mov (.t 10)), none, 0, [], [], false⟩,
   ⟨some 99, .op (.bin .eql (.t 98) (.c (.int .i64 32))), none, 1, [], [], false⟩,
   ⟨some 100, .op (.mov (.t 99)), none, 2, [], [], false⟩,
   ⟨some 101, .op (.mov (.t 10)), some (100, false), 3, [], [], false⟩,
   ⟨some 102, .op (.bin .eql (.t 101) (.c (.int .i64 41))), some (100, false), 4, [], [], false⟩,
   ⟨some 103, .op (.mov (.t 102)), some (100, false), 5, [], [], false⟩,
   ⟨some 104, .op (.mov (.t 2)), some (103, true), 6, [], [], false⟩,
   ⟨some 105, .op (.bin .gtr (.t 104) (.c (.int .i64 1099511627776))), some (103, true), 7, [], [], false⟩,
   ⟨some 106, .op (.pick (.t 103) (.t 105) (.c (.bool false))), some (100, false), 8, [], [], false⟩,
   ⟨some 107, .op (.pick (.t 100) (.c (.bool true)) (.t 106)), none, 9, [], [], false⟩,
   ⟨some 6, .op (.mov (.t 107)), none, 10, [], [], false⟩])
   (.ret))
  (.skip)))
  (.seq (.seqr [
  ⟨some 108, .op (.mov (.t 10)), none, 0, [], [], false⟩,
  ⟨some 109, .op (.bin .eql (.t 108) (.c (.int .i64 0))), none, 1, [], [], false⟩,
  ⟨some 110, .op (.mov (.t 109)), none, 2, [], [], false⟩,
  ⟨some 111, .op (.faddr 3 (.t 9)), some (110, true), 3, [], [], false⟩,
  ⟨some 112, .op (.load 1 false (.t 111)), some (110, true), 4, [], [], false⟩,
  ⟨some 113, .op (.mov (.t 2)), some (110, true), 5, [], [], false⟩,
  ⟨some 114, .op (.bin .eql (.t 112) (.t 113)), some (110, true), 6, [], [], false⟩,
  ⟨some 115, .op (.pick (.t 110) (.t 114) (.c (.bool false))), none, 7, [], [], false⟩,
  ⟨some 116, .op (.mov (.t 115)), none, 8, [], [], false⟩,
  ⟨some 117, .op (.faddr 4 (.t 9)), some (116, true), 9, [], [], false⟩,
  ⟨some 118, .op (.load 1 false (.t 117)), some (116, true), 10, [], [], false⟩,
  ⟨some 119, .op (.faddr 5 (.t 3)), some (116, true), 11, [], [], false⟩,
  ⟨some 120, .op (.load 1 false (.t 119)), some (116, true), 12, [], [], false⟩,
  ⟨some 121, .op (.bin .leq (.t 118) (.t 120)), some (116, true), 13, [], [], false⟩,
  ⟨some 122, .op (.pick (.t 116) (.t 121) (.c (.bool false))), none, 14, [], [], false⟩,
  ⟨some 6, .op (.mov (.t 122)), none, 15, [], [], false⟩])
  (.ret))))))))))⟩
/-! seneschal/seneschallaw28.TgsVoid -/
def d_law28_TgsVoid : DFun := ⟨54, [true, true], [.tmp 4],
 .seq (.seqr [
  ⟨some 4, .op (.mov (.c (.bool false))), none, 0, [], [], false⟩])
  (.seq (.seq (.seqr [
  ⟨some 17, .call n_law28_works [], none, 0, [], [], false⟩,
  ⟨some 18, .op (.un .not (.t 17)), none, 1, [], [], false⟩])
  (.cond (.t 18)
  (.seq (.seqr [
   ⟨some 4, .op (.mov (.c (.bool false))), none, 0, [], [], false⟩])
   (.ret))
  (.skip)))
  (.seq (.seqr [
  ⟨some 5, .op (.mov (.c .nilp)), none, 0, [], [], false⟩])
  (.seq (.seqr [
  ⟨some 6, .op (.alloc (.box [.nilp, .nilp, (.int .i64 0)])), none, 0, [], [], false⟩])
  (.seq (.seqr [
  ⟨some 20, .op (.mov (.t 5)), none, 0, [], [], false⟩,
  ⟨some 21, .op (.mov (.t 0)), none, 1, [], [], false⟩,
  ⟨some 22, .call n_law28_key [(.c (.str [99]))], none, 2, [], [], false⟩,
  ⟨some 23, .op (.mov (.t 1)), none, 3, [], [], false⟩,
  ⟨some 24, .call n_tgs_Server_Grant [(.t 20), (.t 21), (.t 22), (.t 23)], none, 4, [], [], false⟩,
  ⟨some 19, .op (.mov (.t 24)), none, 5, [], [], false⟩,
  ⟨some 25, .op (.ext 0 (.t 19)), none, 6, [], [], false⟩,
  ⟨some 26, .op (.ext 1 (.t 19)), none, 7, [], [], false⟩,
  ⟨some 27, .op (.ext 2 (.t 19)), none, 8, [], [], false⟩,
  ⟨some 28, .op (.ext 3 (.t 19)), none, 9, [], [], false⟩,
  ⟨some 7, .op (.alloc (.box [(.str []), (.str []), .nils, (.int .i64 0), (.int .i64 0), (.int .i64 0), (.int .i64 0)])), none, 10, [], [], false⟩,
  ⟨some 8, .op (.alloc (.box [(.str []), (.int .i64 0), (.int .i64 0)])), none, 11, [], [], false⟩,
  ⟨none, .op (.store 7 (.t 7) (.t 25)), none, 12, [], [], false⟩,
  ⟨none, .op (.store 3 (.t 8) (.t 26)), none, 13, [], [], false⟩,
  ⟨some 9, .op (.mov (.t 27)), none, 14, [], [], false⟩,
  ⟨some 10, .op (.mov (.t 28)), none, 15, [], [], false⟩])
  (.seq (.seqr [
  ⟨some 30, .op (.mov (.t 0)), none, 0, [], [], false⟩,
  ⟨some 31, .call n_law28_key [(.c (.str [99]))], none, 1, [], [], false⟩,
  ⟨some 32, .op (.mov (.t 1)), none, 2, [], [], false⟩,
  ⟨some 33, .call n_tgs_Server_Grant [(.t 6), (.t 30), (.t 31), (.t 32)], none, 3, [], [], false⟩,
  ⟨some 29, .op (.mov (.t 33)), none, 4, [], [], false⟩,
  ⟨some 34, .op (.ext 0 (.t 29)), none, 5, [], [], false⟩,
  ⟨some 35, .op (.ext 1 (.t 29)), none, 6, [], [], false⟩,
  ⟨some 36, .op (.ext 2 (.t 29)), none, 7, [], [], false⟩,
  ⟨some 37, .op (.ext 3 (.t 29)), none, 8, [], [], false⟩,
  ⟨some 11, .op (.alloc (.box [(.str []), (.str []), .nils, (.int .i64 0), (.int .i64 0), (.int .i64 0), (.int .i64 0)])), none, 9, [], [], false⟩,
  ⟨some 12, .op (.alloc (.box [(.str []), (.int .i64 0), (.int .i64 0)])), none, 10, [], [], false⟩,
  ⟨none, .op (.store 7 (.t 11) (.t 34)), none, 11, [], [], false⟩,
  ⟨none, .op (.store 3 (.t 12) (.t 35)), none, 12, [], [], false⟩,
  ⟨some 13, .op (.mov (.t 36)), none, 13, [], [], false⟩,
  ⟨some 14, .op (.mov (.t 37)), none, 14, [], [], false⟩])
  (.seq (.seqr [
  ⟨some 39, .call n_tgs_Make [(.c .nilp), (.c (.int .i64 1)), (.c (.int .i64 1))], none, 0, [], [], false⟩,
  ⟨some 38, .op (.mov (.t 39)), none, 1, [], [], false⟩,
  ⟨some 40, .op (.ext 0 (.t 38)), none, 2, [], [], false⟩,
  ⟨some 41, .op (.ext 1 (.t 38)), none, 3, [], [], false⟩,
  ⟨some 15, .op (.mov (.t 40)), none, 4, [], [], false⟩,
  ⟨some 16, .op (.mov (.t 41)), none, 5, [], [], false⟩])
  (.seq (.seqr [
  ⟨some 42, .op (.mov (.t 10)), none, 0, [], [], false⟩,
  ⟨some 43, .op (.bin .eql (.t 42) (.c (.int .i64 1))), none, 1, [], [], false⟩,
  ⟨some 44, .op (.mov (.t 43)), none, 2, [], [], false⟩,
  ⟨some 45, .op (.mov (.t 14)), some (44, true), 3, [], [], false⟩,
  ⟨some 46, .op (.mov (.t 10)), some (44, true), 4, [], [], false⟩,
  ⟨some 47, .op (.bin .eql (.t 45) (.t 46)), some (44, true), 5, [], [], false⟩,
  ⟨some 48, .op (.pick (.t 44) (.t 47) (.c (.bool false))), none, 6, [], [], false⟩,
  ⟨some 49, .op (.mov (.t 48)), none, 7, [], [], false⟩,
  ⟨some 50, .op (.mov (.t 16)), some (49, true), 8, [], [], false⟩,
  ⟨some 51, .op (.mov (.t 10)), some (49, true), 9, [], [], false⟩,
  ⟨some 52, .op (.bin .eql (.t 50) (.t 51)), some (49, true), 10, [], [], false⟩,
  ⟨some 53, .op (.pick (.t 49) (.t 52) (.c (.bool false))), none, 11, [], [], false⟩,
  ⟨some 4, .op (.mov (.t 53)), none, 12, [], [], false⟩])
  (.ret))))))))⟩
/-! seneschal/seneschallaw28.short -/
def d_law28_short : DFun := ⟨29, [true], [.cell 2 7 true],
 .seq (.seqr [
  ⟨some 1, .op (.box 0 (.t 0)), none, 0, [], [], false⟩,
  ⟨some 2, .op (.alloc (.box [(.str []), (.str []), .nils, (.int .i64 0), (.int .i64 0), (.int .i64 0), (.int .i64 0)])), none, 1, [], [], false⟩])
  (.seq (.drwr [
  ⟨some 3, .op (.faddr 0 (.t 1)), none, 0, [], [], false⟩,
  ⟨some 5, .op (.faddr 0 (.t 1)), none, 2, [], [], false⟩,
  ⟨some 10, .op (.faddr 1 (.t 1)), none, 7, [], [], false⟩,
  ⟨some 12, .op (.faddr 1 (.t 1)), none, 9, [], [], false⟩,
  ⟨some 17, .op (.faddr 2 (.t 1)), none, 14, [], [], false⟩,
  ⟨some 18, .op (.load 1 false (.t 17)), none, 15, [], [], false⟩,
  ⟨some 19, .op (.faddr 2 (.t 1)), none, 16, [], [], false⟩,
  ⟨some 20, .op (.load 1 false (.t 19)), none, 17, [], [], false⟩,
  ⟨some 21, .op (.lenL (.t 20)), none, 18, [], [], false⟩,
  ⟨some 22, .op (.mnx true (.t 21) (.c (.int .i64 40))), none, 19, [], [], false⟩,
  ⟨some 23, .op (.slcL 1 (.t 18) none (some (.t 22))), none, 20, [], [], false⟩,
  ⟨some 24, .call n_base_Bytes [(.t 23)], none, 21, [], [], false⟩,
  ⟨some 4, .op (.load 1 false (.t 3)), none, 1, [], [11], false⟩,
  ⟨some 6, .op (.load 1 false (.t 5)), none, 3, [], [11], false⟩,
  ⟨some 7, .op (.lenS (.t 6)), none, 4, [], [], false⟩,
  ⟨some 8, .op (.mnx true (.t 7) (.c (.int .i64 60))), none, 5, [], [], false⟩,
  ⟨some 9, .op (.slcS (.t 4) none (some (.t 8))), none, 6, [], [], false⟩,
  ⟨some 11, .op (.load 1 false (.t 10)), none, 8, [], [11], false⟩,
  ⟨some 13, .op (.load 1 false (.t 12)), none, 10, [], [11], false⟩,
  ⟨some 14, .op (.lenS (.t 13)), none, 11, [], [], false⟩,
  ⟨some 15, .op (.mnx true (.t 14) (.c (.int .i64 60))), none, 12, [], [], false⟩,
  ⟨some 16, .op (.slcS (.t 11) none (some (.t 15))), none, 13, [], [], false⟩,
  ⟨some 25, .op (.faddr 0 (.t 1)), none, 22, [], [], false⟩,
  ⟨none, .op (.store 1 (.t 25) (.t 9)), none, 23, [11], [], false⟩,
  ⟨some 26, .op (.faddr 1 (.t 1)), none, 24, [], [], false⟩,
  ⟨none, .op (.store 1 (.t 26) (.t 16)), none, 25, [11, 23], [], false⟩,
  ⟨some 27, .op (.faddr 2 (.t 1)), none, 26, [], [], false⟩,
  ⟨none, .op (.store 1 (.t 27) (.t 24)), none, 27, [11, 23, 25], [], false⟩])
  (.seq (.seqr [
  ⟨some 28, .op (.load 7 true (.t 1)), none, 0, [], [], false⟩,
  ⟨none, .op (.store 7 (.t 2) (.t 28)), none, 1, [], [], false⟩])
  (.ret)))⟩
/-! seneschal/tgs.Ask -/
def l_tgs_Ask_0 : DCode := .seq (.seqr [
  ⟨some 63, .op (.bin .lss (.t 62) (.c (.int .i64 5))), none, 0, [], [], false⟩])
  (.seq (.cond (.t 63)
  (.skip)
  (.exit 1))
  (.seq (.block 2 (.seq (.seqr [
  ⟨some 64, .op (.mov (.t 62)), none, 0, [], [], false⟩,
  ⟨some 65, .op (.idxA 5 1 false (.t 61) (.t 62)), none, 1, [], [], false⟩,
  ⟨some 16, .op (.mov (.t 64)), none, 2, [], [], false⟩,
  ⟨some 17, .op (.mov (.t 65)), none, 3, [], [], false⟩])
  (.seqr [
  ⟨some 66, .op (.mov (.t 15)), none, 0, [], [], false⟩,
  ⟨some 67, .op (.mov (.t 16)), none, 1, [], [], false⟩,
  ⟨some 68, .op (.bin .add (.c (.int .i64 4)) (.t 67)), none, 2, [], [], false⟩,
  ⟨some 69, .op (.mov (.t 17)), none, 3, [], [], false⟩,
  ⟨some 70, .call n_wire_Int [(.t 69)], none, 4, [], [], false⟩,
  ⟨some 71, .op (.build [(.int .i64 0), .nils] [(0, 1, (.t 68)), (1, 1, (.t 70))]), none, 5, [], [], false⟩,
  ⟨some 72, .op (.bsl 2 [(.agg [(.int .i64 0), .nils])] [(0, (.t 71))]), none, 6, [], [], false⟩,
  ⟨some 73, .op (.app 2 32 (.t 66) (.t 72)), none, 7, [], [], false⟩,
  ⟨some 15, .op (.mov (.t 73)), none, 8, [], [], false⟩])))
  (.seqr [
  ⟨some 74, .op (.bin .add (.t 62) (.c (.int .i64 1))), none, 0, [], [], false⟩,
  ⟨some 62, .op (.mov (.t 74)), none, 1, [], [], false⟩])))
def d_tgs_Ask : DFun := ⟨79, [true, true, true, true, true], [.tmp 10, .tmp 11],
 .seq (.seqr [
  ⟨some 5, .op (.box 0 (.t 0)), none, 0, [], [], false⟩,
  ⟨some 7, .op (.box 0 (.t 2)), none, 1, [], [], false⟩,
  ⟨some 10, .op (.mov (.c .nils)), none, 2, [], [], false⟩,
  ⟨some 11, .op (.mov (.c (.int .i64 0))), none, 3, [], [], false⟩])
  (.seq (.seqr [
  ⟨some 19, .op (.load 7 true (.t 5)), none, 0, [], [], false⟩,
  ⟨some 20, .call n_ticket_Bytes [(.t 19)], none, 1, [], [], false⟩,
  ⟨some 18, .op (.mov (.t 20)), none, 2, [], [], false⟩,
  ⟨some 21, .op (.ext 0 (.t 18)), none, 3, [], [], false⟩,
  ⟨some 22, .op (.ext 1 (.t 18)), none, 4, [], [], false⟩,
  ⟨some 12, .op (.mov (.t 21)), none, 5, [], [], false⟩,
  ⟨some 13, .op (.mov (.t 22)), none, 6, [], [], false⟩])
  (.seq (.seq (.seqr [
  ⟨some 23, .op (.mov (.t 13)), none, 0, [], [], false⟩,
  ⟨some 24, .op (.bin .neq (.t 23) (.c (.int .i64 0))), none, 1, [], [], false⟩,
  ⟨some 25, .op (.mov (.t 24)), none, 2, [], [], false⟩,
  ⟨some 26, .op (.faddr 1 (.t 5)), some (25, false), 3, [], [], false⟩,
  ⟨some 27, .op (.load 1 false (.t 26)), some (25, false), 4, [], [], false⟩,
  ⟨some 28, .op (.bin .neq (.t 27) (.c (.str [107, 114, 98, 116, 103, 116]))), some (25, false), 5, [], [], false⟩,
  ⟨some 29, .op (.pick (.t 25) (.c (.bool true)) (.t 28)), none, 6, [], [], false⟩])
  (.cond (.t 29)
  (.seq (.seqr [
   ⟨some 10, .op (.mov (.c .nils)), none, 0, [], [], false⟩,
   ⟨some 11, .op (.mov (.c (.int .i64 200))), none, 1, [], [], false⟩])
   (.ret))
  (.skip)))
  (.seq (.seqr [
  ⟨some 31, .op (.faddr 2 (.t 5)), none, 0, [], [], false⟩,
  ⟨some 32, .op (.load 1 false (.t 31)), none, 1, [], [], false⟩,
  ⟨some 33, .op (.mov (.t 1)), none, 2, [], [], false⟩,
  ⟨some 34, .op (.faddr 0 (.t 5)), none, 3, [], [], false⟩,
  ⟨some 35, .op (.load 1 false (.t 34)), none, 4, [], [], false⟩,
  ⟨some 36, .op (.mov (.t 3)), none, 5, [], [], false⟩,
  ⟨some 37, .op (.mov (.t 4)), none, 6, [], [], false⟩,
  ⟨some 38, .op (.build [(.str []), (.int .i64 0), (.int .i64 0)] [(0, 1, (.t 35)), (1, 1, (.t 36)), (2, 1, (.t 37))]), none, 7, [], [], false⟩,
  ⟨some 39, .call n_ticket_Seal [(.t 32), (.t 33), (.t 38)], none, 8, [], [], false⟩,
  ⟨some 30, .op (.mov (.t 39)), none, 9, [], [], false⟩,
  ⟨some 40, .op (.ext 0 (.t 30)), none, 10, [], [], false⟩,
  ⟨some 41, .op (.ext 1 (.t 30)), none, 11, [], [], false⟩,
  ⟨some 14, .op (.mov (.t 40)), none, 12, [], [], false⟩,
  ⟨some 13, .op (.mov (.t 41)), none, 13, [], [], false⟩])
  (.seq (.block 0 (.seq (.seqr [
  ⟨some 43, .op (.mov (.t 13)), none, 0, [], [], false⟩,
  ⟨some 44, .op (.bin .neq (.t 43) (.c (.int .i64 0))), none, 1, [], [], false⟩,
  ⟨some 42, .op (.mov (.t 44)), none, 2, [], [], false⟩])
  (.cond (.t 42)
  (.seq (.seqr [
   ⟨some 45, .op (.mov (.t 13)), none, 0, [], [], false⟩,
   ⟨some 10, .op (.mov (.c .nils)), none, 1, [], [], false⟩,
   ⟨some 11, .op (.mov (.t 45)), none, 2, [], [], false⟩])
   (.ret))
  (.seq (.seqr [
   ⟨some 47, .op (.faddr 1 (.t 7)), none, 0, [], [], false⟩,
   ⟨some 48, .op (.load 1 false (.t 47)), none, 1, [], [], false⟩,
   ⟨some 49, .op (.lenS (.t 48)), none, 2, [], [], false⟩,
   ⟨some 50, .op (.bin .gtr (.t 49) (.c (.int .i64 4096))), none, 3, [], [], false⟩,
   ⟨some 46, .op (.mov (.t 50)), none, 4, [], [], false⟩])
   (.cond (.t 46)
   (.seq (.seqr [
    ⟨some 10, .op (.mov (.c .nils)), none, 0, [], [], false⟩,
    ⟨some 11, .op (.mov (.c (.int .i64 3))), none, 1, [], [], false⟩])
    (.ret))
   (.skip))))))
  (.seq (.seqr [
  ⟨some 51, .op (.mov (.t 12)), none, 0, [], [], false⟩,
  ⟨some 52, .op (.build [(.int .i64 0), .nils] [(0, 1, (.c (.int .i64 1))), (1, 1, (.t 51))]), none, 1, [], [], false⟩,
  ⟨some 53, .op (.mov (.t 14)), none, 2, [], [], false⟩,
  ⟨some 54, .op (.build [(.int .i64 0), .nils] [(0, 1, (.c (.int .i64 2))), (1, 1, (.t 53))]), none, 3, [], [], false⟩,
  ⟨some 55, .op (.faddr 1 (.t 7)), none, 4, [], [], false⟩,
  ⟨some 56, .op (.load 1 false (.t 55)), none, 5, [], [], false⟩,
  ⟨some 57, .op (.s2b (.t 56)), none, 6, [], [], false⟩,
  ⟨some 58, .op (.build [(.int .i64 0), .nils] [(0, 1, (.c (.int .i64 3))), (1, 1, (.t 57))]), none, 7, [], [], false⟩,
  ⟨some 59, .op (.bsl 2 [(.agg [(.int .i64 0), .nils]), (.agg [(.int .i64 0), .nils]), (.agg [(.int .i64 0), .nils])] [(0, (.t 52)), (1, (.t 54)), (2, (.t 58))]), none, 8, [], [], false⟩,
  ⟨some 15, .op (.mov (.t 59)), none, 9, [], [], false⟩])
  (.seq (.seq (.seqr [
  ⟨some 60, .op (.load 6 true (.t 7)), none, 0, [], [], false⟩,
  ⟨some 61, .call n_tgs_Want_numbers [(.t 60)], none, 1, [], [], false⟩,
  ⟨some 62, .op (.mov (.c (.int .i64 0))), none, 2, [], [], false⟩])
  (.block 1 (.loop [15, 61, 62] l_tgs_Ask_0)))
  (.seq (.seqr [
  ⟨some 75, .op (.mov (.t 15)), none, 0, [], [], false⟩,
  ⟨some 76, .call n_wire_Put [(.t 75)], none, 1, [], [], false⟩,
  ⟨some 77, .op (.ext 0 (.t 76)), none, 2, [], [], false⟩,
  ⟨some 78, .op (.ext 1 (.t 76)), none, 3, [], [], false⟩,
  ⟨some 10, .op (.mov (.t 77)), none, 4, [], [], false⟩,
  ⟨some 11, .op (.mov (.t 78)), none, 5, [], [], false⟩])
  (.ret))))))))⟩
/-! seneschal/tgs.Asked -/
def l_tgs_Asked_0 : DCode := .seq (.seqr [
  ⟨some 34, .op (.bin .lss (.t 33) (.c (.int .i64 5))), none, 0, [], [], false⟩])
  (.seq (.cond (.t 34)
  (.skip)
  (.exit 0))
  (.seq (.block 1 (.seq (.seqr [
  ⟨some 35, .op (.mov (.t 33)), none, 0, [], [], false⟩,
  ⟨some 9, .op (.mov (.t 35)), none, 1, [], [], false⟩])
  (.seq (.seqr [
  ⟨some 37, .op (.mov (.t 6)), none, 0, [], [], false⟩,
  ⟨some 38, .op (.mov (.t 9)), none, 1, [], [], false⟩,
  ⟨some 39, .op (.bin .add (.c (.int .i64 3)) (.t 38)), none, 2, [], [], false⟩,
  ⟨some 40, .op (.iaddr none 2 (.t 37) (.t 39)), none, 3, [], [], false⟩,
  ⟨some 41, .op (.faddr 1 (.t 40)), none, 4, [], [], false⟩,
  ⟨some 42, .op (.load 1 false (.t 41)), none, 5, [], [], false⟩,
  ⟨some 43, .call n_wire_ReadInt [(.t 42)], none, 6, [], [], false⟩,
  ⟨some 36, .op (.mov (.t 43)), none, 7, [], [], false⟩,
  ⟨some 44, .op (.ext 0 (.t 36)), none, 8, [], [], false⟩,
  ⟨some 45, .op (.ext 1 (.t 36)), none, 9, [], [], false⟩,
  ⟨some 10, .op (.mov (.t 44)), none, 10, [], [], false⟩,
  ⟨some 11, .op (.mov (.t 45)), none, 11, [], [], false⟩])
  (.seq (.seq (.seqr [
  ⟨some 46, .op (.mov (.t 11)), none, 0, [], [], false⟩,
  ⟨some 47, .op (.bin .neq (.t 46) (.c (.int .i64 0))), none, 1, [], [], false⟩])
  (.cond (.t 47)
  (.seq (.seqr [
   ⟨some 48, .op (.build [(.int .i64 0), (.str []), (.int .i64 0), (.int .i64 0), (.int .i64 0), (.int .i64 0)] []), none, 0, [], [], false⟩,
   ⟨some 2, .op (.mov (.c .nils)), none, 1, [], [], false⟩,
   ⟨some 3, .op (.mov (.c .nils)), none, 2, [], [], false⟩,
   ⟨none, .op (.store 6 (.t 4) (.t 48)), none, 3, [], [], false⟩,
   ⟨some 5, .op (.mov (.c (.int .i64 80))), none, 4, [], [], false⟩])
   (.ret))
  (.skip)))
  (.seqr [
  ⟨some 49, .op (.mov (.t 9)), none, 0, [], [], false⟩,
  ⟨some 50, .op (.mov (.t 10)), none, 1, [], [], false⟩,
  ⟨some 51, .op (.iaddr (some 5) 1 (.t 8) (.t 49)), none, 2, [], [], false⟩,
  ⟨none, .op (.store 1 (.t 51) (.t 50)), none, 3, [], [], false⟩])))))
  (.seqr [
  ⟨some 52, .op (.bin .add (.t 33) (.c (.int .i64 1))), none, 0, [], [], false⟩,
  ⟨some 33, .op (.mov (.t 52)), none, 1, [], [], false⟩])))
def d_tgs_Asked : DFun := ⟨78, [true], [.tmp 2, .tmp 3, .cell 4 6 true, .tmp 5],
 .seq (.seqr [
  ⟨some 2, .op (.mov (.c .nils)), none, 0, [], [], false⟩,
  ⟨some 3, .op (.mov (.c .nils)), none, 1, [], [], false⟩,
  ⟨some 4, .op (.alloc (.box [(.int .i64 0), (.str []), (.int .i64 0), (.int .i64 0), (.int .i64 0), (.int .i64 0)])), none, 2, [], [], false⟩,
  ⟨some 5, .op (.mov (.c (.int .i64 0))), none, 3, [], [], false⟩])
  (.seq (.seqr [
  ⟨some 14, .op (.mov (.t 0)), none, 0, [], [], false⟩,
  ⟨some 15, .call n_wire_Read [(.t 14)], none, 1, [], [], false⟩,
  ⟨some 13, .op (.mov (.t 15)), none, 2, [], [], false⟩,
  ⟨some 16, .op (.ext 0 (.t 13)), none, 3, [], [], false⟩,
  ⟨some 17, .op (.ext 1 (.t 13)), none, 4, [], [], false⟩,
  ⟨some 6, .op (.mov (.t 16)), none, 5, [], [], false⟩,
  ⟨some 7, .op (.mov (.t 17)), none, 6, [], [], false⟩])
  (.seq (.seq (.seqr [
  ⟨some 18, .op (.mov (.t 7)), none, 0, [], [], false⟩,
  ⟨some 19, .op (.bin .neq (.t 18) (.c (.int .i64 0))), none, 1, [], [], false⟩,
  ⟨some 20, .op (.mov (.t 19)), none, 2, [], [], false⟩,
  ⟨some 21, .op (.mov (.t 6)), some (20, false), 3, [], [], false⟩,
  ⟨some 22, .op (.lenL (.t 21)), some (20, false), 4, [], [], false⟩,
  ⟨some 23, .op (.bin .neq (.t 22) (.c (.int .i64 8))), some (20, false), 5, [], [], false⟩,
  ⟨some 24, .op (.pick (.t 20) (.c (.bool true)) (.t 23)), none, 6, [], [], false⟩,
  ⟨some 25, .op (.mov (.t 24)), none, 7, [], [], false⟩,
  ⟨some 26, .op (.mov (.t 6)), some (25, false), 8, [], [], false⟩,
  ⟨some 27, .op (.iaddr none 2 (.t 26) (.c (.int .i64 7))), some (25, false), 9, [], [], false⟩,
  ⟨some 28, .op (.faddr 0 (.t 27)), some (25, false), 10, [], [], false⟩,
  ⟨some 29, .op (.load 1 false (.t 28)), some (25, false), 11, [], [], false⟩,
  ⟨some 30, .op (.bin .neq (.t 29) (.c (.int .i64 8))), some (25, false), 12, [], [], false⟩,
  ⟨some 31, .op (.pick (.t 25) (.c (.bool true)) (.t 30)), none, 13, [], [], false⟩])
  (.cond (.t 31)
  (.seq (.seqr [
   ⟨some 32, .op (.build [(.int .i64 0), (.str []), (.int .i64 0), (.int .i64 0), (.int .i64 0), (.int .i64 0)] []), none, 0, [], [], false⟩,
   ⟨some 2, .op (.mov (.c .nils)), none, 1, [], [], false⟩,
   ⟨some 3, .op (.mov (.c .nils)), none, 2, [], [], false⟩,
   ⟨none, .op (.store 6 (.t 4) (.t 32)), none, 3, [], [], false⟩,
   ⟨some 5, .op (.mov (.c (.int .i64 80))), none, 4, [], [], false⟩])
   (.ret))
  (.skip)))
  (.seq (.seqr [
  ⟨some 8, .op (.alloc (.row [(.int .i64 0), (.int .i64 0), (.int .i64 0), (.int .i64 0), (.int .i64 0)] 1)), none, 0, [], [], false⟩])
  (.seq (.seq (.seqr [
  ⟨some 33, .op (.mov (.c (.int .i64 0))), none, 0, [], [], false⟩])
  (.block 0 (.loop [4, 6, 8, 33] l_tgs_Asked_0)))
  (.seq (.drwr [
  ⟨some 53, .op (.iaddr (some 5) 1 (.t 8) (.c (.int .i64 0))), none, 0, [], [], false⟩,
  ⟨some 54, .op (.load 1 false (.t 53)), none, 1, [], [], false⟩,
  ⟨some 55, .op (.mov (.t 6)), none, 2, [], [], false⟩,
  ⟨some 56, .op (.iaddr none 2 (.t 55) (.c (.int .i64 2))), none, 3, [], [], false⟩,
  ⟨some 57, .op (.faddr 1 (.t 56)), none, 4, [], [], false⟩,
  ⟨some 58, .op (.load 1 false (.t 57)), none, 5, [], [], false⟩,
  ⟨some 59, .op (.b2s (.t 58)), none, 6, [], [], false⟩,
  ⟨some 60, .op (.iaddr (some 5) 1 (.t 8) (.c (.int .i64 1))), none, 7, [], [], false⟩,
  ⟨some 61, .op (.load 1 false (.t 60)), none, 8, [], [], false⟩,
  ⟨some 62, .op (.iaddr (some 5) 1 (.t 8) (.c (.int .i64 2))), none, 9, [], [], false⟩,
  ⟨some 63, .op (.load 1 false (.t 62)), none, 10, [], [], false⟩,
  ⟨some 64, .op (.iaddr (some 5) 1 (.t 8) (.c (.int .i64 3))), none, 11, [], [], false⟩,
  ⟨some 65, .op (.load 1 false (.t 64)), none, 12, [], [], false⟩,
  ⟨some 66, .op (.iaddr (some 5) 1 (.t 8) (.c (.int .i64 4))), none, 13, [], [], false⟩,
  ⟨some 67, .op (.load 1 false (.t 66)), none, 14, [], [], false⟩,
  ⟨some 68, .op (.build [(.int .i64 0), (.str []), (.int .i64 0), (.int .i64 0), (.int .i64 0), (.int .i64 0)] [(0, 1, (.t 54)), (1, 1, (.t 59)), (2, 1, (.t 61)), (3, 1, (.t 63)), (4, 1, (.t 65)), (5, 1, (.t 67))]), none, 15, [], [], false⟩,
  ⟨some 12, .op (.alloc (.box [(.int .i64 0), (.str []), (.int .i64 0), (.int .i64 0), (.int .i64 0), (.int .i64 0)])), none, 16, [], [], false⟩,
  ⟨none, .op (.store 6 (.t 12) (.t 68)), none, 17, [16], [], false⟩])
  (.seq (.drwr [
  ⟨some 69, .op (.mov (.t 6)), none, 0, [], [], false⟩,
  ⟨some 70, .op (.iaddr none 2 (.t 69) (.c (.int .i64 0))), none, 1, [], [], false⟩,
  ⟨some 71, .op (.faddr 1 (.t 70)), none, 2, [], [], false⟩,
  ⟨some 72, .op (.load 1 false (.t 71)), none, 3, [], [], false⟩,
  ⟨some 73, .op (.mov (.t 6)), none, 4, [], [], false⟩,
  ⟨some 74, .op (.iaddr none 2 (.t 73) (.c (.int .i64 1))), none, 5, [], [], false⟩,
  ⟨some 75, .op (.faddr 1 (.t 74)), none, 6, [], [], false⟩,
  ⟨some 76, .op (.load 1 false (.t 75)), none, 7, [], [], false⟩,
  ⟨some 77, .op (.load 6 true (.t 12)), none, 8, [], [], false⟩,
  ⟨some 2, .op (.mov (.t 72)), none, 9, [], [], false⟩,
  ⟨some 3, .op (.mov (.t 76)), none, 10, [], [], false⟩,
  ⟨none, .op (.store 6 (.t 4) (.t 77)), none, 11, [], [], false⟩,
  ⟨some 5, .op (.mov (.c (.int .i64 0))), none, 12, [], [], false⟩])
  (.ret)))))))⟩
/-! seneschal/seneschalbase.Bytes -/
def d_base_Bytes : DFun := ⟨6, [true], [.tmp 2],
 .seq (.seqr [
  ⟨some 2, .op (.mov (.c .nils)), none, 0, [], [], false⟩])
  (.seq (.seqr [
  ⟨some 3, .op (.bsl 1 [] []), none, 0, [], [], false⟩,
  ⟨some 4, .op (.mov (.t 0)), none, 1, [], [], false⟩,
  ⟨some 5, .op (.app 1 1 (.t 3) (.t 4)), none, 2, [], [], false⟩,
  ⟨some 2, .op (.mov (.t 5)), none, 3, [], [], false⟩])
  (.ret))⟩
/-! seneschal/tgs.Renewed -/
def d_tgs_Renewed : DFun := ⟨52, [true, true], [.cell 4 7 true, .tmp 5],
 .seq (.seqr [
  ⟨some 2, .op (.box 0 (.t 0)), none, 0, [], [], false⟩,
  ⟨some 4, .op (.alloc (.box [(.str []), (.str []), .nils, (.int .i64 0), (.int .i64 0), (.int .i64 0), (.int .i64 0)])), none, 1, [], [], false⟩,
  ⟨some 5, .op (.mov (.c (.int .i64 0))), none, 2, [], [], false⟩])
  (.seq (.seqr [
  ⟨some 10, .op (.load 7 true (.t 2)), none, 0, [], [], false⟩,
  ⟨some 11, .call n_ticket_Bytes [(.t 10)], none, 1, [], [], false⟩,
  ⟨some 9, .op (.mov (.t 11)), none, 2, [], [], false⟩,
  ⟨some 12, .op (.ext 0 (.t 9)), none, 3, [], [], false⟩,
  ⟨some 13, .op (.ext 1 (.t 9)), none, 4, [], [], false⟩,
  ⟨some 6, .op (.mov (.t 12)), none, 5, [], [], false⟩,
  ⟨some 7, .op (.mov (.t 13)), none, 6, [], [], false⟩])
  (.seq (.block 0 (.seq (.seqr [
  ⟨some 15, .op (.mov (.t 7)), none, 0, [], [], false⟩,
  ⟨some 16, .op (.bin .neq (.t 15) (.c (.int .i64 0))), none, 1, [], [], false⟩,
  ⟨some 17, .op (.mov (.t 16)), none, 2, [], [], false⟩,
  ⟨some 18, .op (.mov (.t 1)), some (17, false), 3, [], [], false⟩,
  ⟨some 19, .op (.bsl 1 [(.int .i64 0)] [(0, (.t 18))]), some (17, false), 4, [], [], false⟩,
  ⟨some 20, .call n_tgs_times [(.t 19)], some (17, false), 5, [], [], false⟩,
  ⟨some 21, .op (.un .not (.t 20)), some (17, false), 6, [], [], false⟩,
  ⟨some 22, .op (.pick (.t 17) (.c (.bool true)) (.t 21)), none, 7, [], [], false⟩,
  ⟨some 14, .op (.mov (.t 22)), none, 8, [], [], false⟩])
  (.cond (.t 14)
  (.seq (.seqr [
   ⟨some 23, .op (.build [(.str []), (.str []), .nils, (.int .i64 0), (.int .i64 0), (.int .i64 0), (.int .i64 0)] []), none, 0, [], [], false⟩,
   ⟨none, .op (.store 7 (.t 4) (.t 23)), none, 1, [], [], false⟩,
   ⟨some 5, .op (.mov (.c (.int .i64 41))), none, 2, [], [], false⟩])
   (.ret))
  (.seq (.seqr [
   ⟨some 25, .op (.faddr 6 (.t 2)), none, 0, [], [], false⟩,
   ⟨some 26, .op (.load 1 false (.t 25)), none, 1, [], [], false⟩,
   ⟨some 27, .op (.bin .and (.t 26) (.c (.int .i64 4))), none, 2, [], [], false⟩,
   ⟨some 28, .op (.bin .eql (.t 27) (.c (.int .i64 0))), none, 3, [], [], false⟩,
   ⟨some 24, .op (.mov (.t 28)), none, 4, [], [], false⟩])
   (.cond (.t 24)
   (.seq (.seqr [
    ⟨some 29, .op (.build [(.str []), (.str []), .nils, (.int .i64 0), (.int .i64 0), (.int .i64 0), (.int .i64 0)] []), none, 0, [], [], false⟩,
    ⟨none, .op (.store 7 (.t 4) (.t 29)), none, 1, [], [], false⟩,
    ⟨some 5, .op (.mov (.c (.int .i64 12))), none, 2, [], [], false⟩])
    (.ret))
   (.seq (.seqr [
    ⟨some 31, .op (.mov (.t 1)), none, 0, [], [], false⟩,
    ⟨some 32, .op (.faddr 5 (.t 2)), none, 1, [], [], false⟩,
    ⟨some 33, .op (.load 1 false (.t 32)), none, 2, [], [], false⟩,
    ⟨some 34, .op (.bin .geq (.t 31) (.t 33)), none, 3, [], [], false⟩,
    ⟨some 30, .op (.mov (.t 34)), none, 4, [], [], false⟩])
    (.cond (.t 30)
    (.seq (.seqr [
     ⟨some 35, .op (.build [(.str []), (.str []), .nils, (.int .i64 0), (.int .i64 0), (.int .i64 0), (.int .i64 0)] []), none, 0, [], [], false⟩,
     ⟨none, .op (.store 7 (.t 4) (.t 35)), none, 1, [], [], false⟩,
     ⟨some 5, .op (.mov (.c (.int .i64 32))), none, 2, [], [], false⟩])
     (.ret))
    (.skip))))))))
  (.seq (.seqr [
  ⟨some 36, .op (.faddr 4 (.t 2)), none, 0, [], [], false⟩,
  ⟨some 37, .op (.load 1 false (.t 36)), none, 1, [], [], false⟩,
  ⟨some 38, .op (.faddr 3 (.t 2)), none, 2, [], [], false⟩,
  ⟨some 39, .op (.load 1 false (.t 38)), none, 3, [], [], false⟩,
  ⟨some 40, .op (.bin .sub (.t 37) (.t 39)), none, 4, [], [], false⟩,
  ⟨some 8, .op (.mov (.t 40)), none, 5, [], [], false⟩])
  (.seq (.seqr [
  ⟨some 41, .op (.mov (.t 1)), none, 0, [], [], false⟩,
  ⟨some 42, .op (.mov (.t 1)), none, 1, [], [], false⟩,
  ⟨some 43, .op (.mov (.t 8)), none, 2, [], [], false⟩,
  ⟨some 44, .op (.bin .add (.t 42) (.t 43)), none, 3, [], [], false⟩,
  ⟨some 45, .op (.faddr 5 (.t 2)), none, 4, [], [], false⟩,
  ⟨some 46, .op (.load 1 false (.t 45)), none, 5, [], [], false⟩,
  ⟨some 47, .op (.mnx true (.t 44) (.t 46)), none, 6, [], [], false⟩,
  ⟨some 48, .op (.faddr 2 (.t 2)), none, 7, [], [], false⟩,
  ⟨none, .op (.store 1 (.t 48) (.c .nils)), none, 8, [], [], false⟩,
  ⟨some 49, .op (.faddr 3 (.t 2)), none, 9, [], [], false⟩,
  ⟨none, .op (.store 1 (.t 49) (.t 41)), none, 10, [], [], false⟩,
  ⟨some 50, .op (.faddr 4 (.t 2)), none, 11, [], [], false⟩,
  ⟨none, .op (.store 1 (.t 50) (.t 47)), none, 12, [], [], false⟩])
  (.seq (.seqr [
  ⟨some 51, .op (.load 7 true (.t 2)), none, 0, [], [], false⟩,
  ⟨none, .op (.store 7 (.t 4) (.t 51)), none, 1, [], [], false⟩,
  ⟨some 5, .op (.mov (.c (.int .i64 0))), none, 2, [], [], false⟩])
  (.ret))))))⟩
/-! seneschal/seneschalbase.SameBytes -/
def d_base_SameBytes : DFun := ⟨10, [true, true], [.tmp 4],
 .seq (.seqr [
  ⟨some 4, .op (.mov (.c (.bool false))), none, 0, [], [], false⟩])
  (.seq (.seqr [
  ⟨some 5, .op (.mov (.t 0)), none, 0, [], [], false⟩,
  ⟨some 6, .op (.b2s (.t 5)), none, 1, [], [], false⟩,
  ⟨some 7, .op (.mov (.t 1)), none, 2, [], [], false⟩,
  ⟨some 8, .op (.b2s (.t 7)), none, 3, [], [], false⟩,
  ⟨some 9, .op (.bin .eql (.t 6) (.t 8)), none, 4, [], [], false⟩,
  ⟨some 4, .op (.mov (.t 9)), none, 5, [], [], false⟩])
  (.ret))⟩
/-! seneschal/seneschallaw28.same -/
def d_law28_same : DFun := ⟨52, [true, true], [.tmp 4],
 .seq (.seqr [
  ⟨some 2, .op (.box 0 (.t 0)), none, 0, [], [], false⟩,
  ⟨some 3, .op (.box 0 (.t 1)), none, 1, [], [], false⟩,
  ⟨some 4, .op (.mov (.c (.bool false))), none, 2, [], [], false⟩])
  (.seq (.seqr [
  ⟨some 5, .op (.faddr 0 (.t 2)), none, 0, [], [], false⟩,
  ⟨some 6, .op (.load 1 false (.t 5)), none, 1, [], [], false⟩,
  ⟨some 7, .op (.faddr 0 (.t 3)), none, 2, [], [], false⟩,
  ⟨some 8, .op (.load 1 false (.t 7)), none, 3, [], [], false⟩,
  ⟨some 9, .op (.bin .eql (.t 6) (.t 8)), none, 4, [], [], false⟩,
  ⟨some 10, .op (.mov (.t 9)), none, 5, [], [], false⟩,
  ⟨some 11, .op (.faddr 1 (.t 2)), some (10, true), 6, [], [], false⟩,
  ⟨some 12, .op (.load 1 false (.t 11)), some (10, true), 7, [], [], false⟩,
  ⟨some 13, .op (.faddr 1 (.t 3)), some (10, true), 8, [], [], false⟩,
  ⟨some 14, .op (.load 1 false (.t 13)), some (10, true), 9, [], [], false⟩,
  ⟨some 15, .op (.bin .eql (.t 12) (.t 14)), some (10, true), 10, [], [], false⟩,
  ⟨some 16, .op (.pick (.t 10) (.t 15) (.c (.bool false))), none, 11, [], [], false⟩,
  ⟨some 17, .op (.mov (.t 16)), none, 12, [], [], false⟩,
  ⟨some 18, .op (.faddr 3 (.t 2)), some (17, true), 13, [], [], false⟩,
  ⟨some 19, .op (.load 1 false (.t 18)), some (17, true), 14, [], [], false⟩,
  ⟨some 20, .op (.faddr 3 (.t 3)), some (17, true), 15, [], [], false⟩,
  ⟨some 21, .op (.load 1 false (.t 20)), some (17, true), 16, [], [], false⟩,
  ⟨some 22, .op (.bin .eql (.t 19) (.t 21)), some (17, true), 17, [], [], false⟩,
  ⟨some 23, .op (.pick (.t 17) (.t 22) (.c (.bool false))), none, 18, [], [], false⟩,
  ⟨some 24, .op (.mov (.t 23)), none, 19, [], [], false⟩,
  ⟨some 25, .op (.faddr 4 (.t 2)), some (24, true), 20, [], [], false⟩,
  ⟨some 26, .op (.load 1 false (.t 25)), some (24, true), 21, [], [], false⟩,
  ⟨some 27, .op (.faddr 4 (.t 3)), some (24, true), 22, [], [], false⟩,
  ⟨some 28, .op (.load 1 false (.t 27)), some (24, true), 23, [], [], false⟩,
  ⟨some 29, .op (.bin .eql (.t 26) (.t 28)), some (24, true), 24, [], [], false⟩,
  ⟨some 30, .op (.pick (.t 24) (.t 29) (.c (.bool false))), none, 25, [], [], false⟩,
  ⟨some 31, .op (.mov (.t 30)), none, 26, [], [], false⟩,
  ⟨some 32, .op (.faddr 5 (.t 2)), some (31, true), 27, [], [], false⟩,
  ⟨some 33, .op (.load 1 false (.t 32)), some (31, true), 28, [], [], false⟩,
  ⟨some 34, .op (.faddr 5 (.t 3)), some (31, true), 29, [], [], false⟩,
  ⟨some 35, .op (.load 1 false (.t 34)), some (31, true), 30, [], [], false⟩,
  ⟨some 36, .op (.bin .eql (.t 33) (.t 35)), some (31, true), 31, [], [], false⟩,
  ⟨some 37, .op (.pick (.t 31) (.t 36) (.c (.bool false))), none, 32, [], [], false⟩,
  ⟨some 38, .op (.mov (.t 37)), none, 33, [], [], false⟩,
  ⟨some 39, .op (.faddr 6 (.t 2)), some (38, true), 34, [], [], false⟩,
  ⟨some 40, .op (.load 1 false (.t 39)), some (38, true), 35, [], [], false⟩,
  ⟨some 41, .op (.faddr 6 (.t 3)), some (38, true), 36, [], [], false⟩,
  ⟨some 42, .op (.load 1 false (.t 41)), some (38, true), 37, [], [], false⟩,
  ⟨some 43, .op (.bin .eql (.t 40) (.t 42)), some (38, true), 38, [], [], false⟩,
  ⟨some 44, .op (.pick (.t 38) (.t 43) (.c (.bool false))), none, 39, [], [], false⟩,
  ⟨some 45, .op (.mov (.t 44)), none, 40, [], [], false⟩,
  ⟨some 46, .op (.faddr 2 (.t 2)), some (45, true), 41, [], [], false⟩,
  ⟨some 47, .op (.load 1 false (.t 46)), some (45, true), 42, [], [], false⟩,
  ⟨some 48, .op (.faddr 2 (.t 3)), some (45, true), 43, [], [], false⟩,
  ⟨some 49, .op (.load 1 false (.t 48)), some (45, true), 44, [], [], false⟩,
  ⟨some 50, .call n_base_SameBytes [(.t 47), (.t 49)], some (45, true), 45, [], [], false⟩,
  ⟨some 51, .op (.pick (.t 45) (.t 50) (.c (.bool false))), none, 46, [], [], false⟩,
  ⟨some 4, .op (.mov (.t 51)), none, 47, [], [], false⟩])
  (.ret))⟩
/-! seneschal/seneschallaw28.works -/
def d_law28_works : DFun := ⟨89, [], [.tmp 0],
 .seq (.seqr [
  ⟨some 0, .op (.mov (.c (.bool false))), none, 0, [], [], false⟩])
  (.seq (.seqr [
  ⟨some 16, .call n_law28_books [], none, 0, [], [], false⟩,
  ⟨some 15, .op (.mov (.t 16)), none, 1, [], [], false⟩,
  ⟨some 17, .op (.ext 0 (.t 15)), none, 2, [], [], false⟩,
  ⟨some 18, .op (.ext 1 (.t 15)), none, 3, [], [], false⟩,
  ⟨some 1, .op (.mov (.t 17)), none, 4, [], [], false⟩,
  ⟨some 2, .op (.mov (.t 18)), none, 5, [], [], false⟩])
  (.seq (.seqr [
  ⟨some 20, .op (.mov (.t 1)), none, 0, [], [], false⟩,
  ⟨some 21, .call n_tgs_Make [(.t 20), (.c (.int .i64 9)), (.c (.int .i64 5))], none, 1, [], [], false⟩,
  ⟨some 19, .op (.mov (.t 21)), none, 2, [], [], false⟩,
  ⟨some 22, .op (.ext 0 (.t 19)), none, 3, [], [], false⟩,
  ⟨some 23, .op (.ext 1 (.t 19)), none, 4, [], [], false⟩,
  ⟨some 3, .op (.mov (.t 22)), none, 5, [], [], false⟩,
  ⟨some 4, .op (.mov (.t 23)), none, 6, [], [], false⟩])
  (.seq (.drwr [
  ⟨some 25, .call n_law28_granting [], none, 0, [], [], false⟩,
  ⟨some 26, .op (.mksl 1 (.int .u8 0) 1 (.c (.int .i64 16)) (.c (.int .i64 16))), none, 1, [], [0], false⟩,
  ⟨some 27, .op (.build [(.int .i64 0), (.str []), (.int .i64 0), (.int .i64 0), (.int .i64 0), (.int .i64 0)] [(1, 1, (.c (.str [115])))]), none, 2, [], [], false⟩,
  ⟨some 28, .call n_tgs_Ask [(.t 25), (.t 26), (.t 27), (.c (.int .i64 5)), (.c (.int .i64 1))], none, 3, [0, 1], [], false⟩,
  ⟨some 24, .op (.mov (.t 28)), none, 4, [], [], false⟩,
  ⟨some 29, .op (.ext 0 (.t 24)), none, 5, [], [], false⟩,
  ⟨some 30, .op (.ext 1 (.t 24)), none, 6, [], [], false⟩,
  ⟨some 5, .op (.mov (.t 29)), none, 7, [], [], false⟩,
  ⟨some 6, .op (.mov (.t 30)), none, 8, [], [], false⟩])
  (.seq (.seq (.frz [5] (.seqr [
  ⟨some 31, .op (.mov (.t 3)), none, 0, [], [], false⟩,
  ⟨some 32, .op (.eqv 1 false false [] (.t 31) (.c .nilp)), none, 1, [], [], false⟩,
  ⟨some 33, .op (.mov (.t 32)), none, 2, [], [], false⟩,
  ⟨some 34, .op (.mov (.t 4)), some (33, false), 3, [], [], false⟩,
  ⟨some 35, .op (.bin .neq (.t 34) (.c (.int .i64 0))), some (33, false), 4, [], [], false⟩,
  ⟨some 36, .op (.pick (.t 33) (.c (.bool true)) (.t 35)), none, 5, [], [], false⟩,
  ⟨some 37, .op (.mov (.t 36)), none, 6, [], [], false⟩,
  ⟨some 38, .op (.mov (.t 6)), some (37, false), 7, [], [], false⟩,
  ⟨some 39, .op (.bin .neq (.t 38) (.c (.int .i64 0))), some (37, false), 8, [], [], false⟩,
  ⟨some 40, .op (.pick (.t 37) (.c (.bool true)) (.t 39)), none, 9, [], [], false⟩]))
  (.cond (.t 40)
  (.seq (.seqr [
   ⟨some 0, .op (.mov (.c (.bool false))), none, 0, [], [], false⟩])
   (.ret))
  (.skip)))
  (.seq (.seqr [
  ⟨some 42, .op (.mov (.t 3)), none, 0, [], [], false⟩,
  ⟨some 43, .op (.mov (.t 5)), none, 1, [], [], false⟩,
  ⟨some 44, .call n_law28_key [(.c (.str [115, 101, 115, 115, 105, 111, 110]))], none, 2, [], [], false⟩,
  ⟨some 45, .call n_tgs_Server_Grant [(.t 42), (.t 43), (.t 44), (.c (.int .i64 5))], none, 3, [], [], false⟩,
  ⟨some 41, .op (.mov (.t 45)), none, 4, [], [], false⟩,
  ⟨some 46, .op (.ext 0 (.t 41)), none, 5, [], [], false⟩,
  ⟨some 47, .op (.ext 1 (.t 41)), none, 6, [], [], false⟩,
  ⟨some 48, .op (.ext 2 (.t 41)), none, 7, [], [], false⟩,
  ⟨some 49, .op (.ext 3 (.t 41)), none, 8, [], [], false⟩,
  ⟨some 7, .op (.alloc (.box [(.str []), (.str []), .nils, (.int .i64 0), (.int .i64 0), (.int .i64 0), (.int .i64 0)])), none, 9, [], [], false⟩,
  ⟨some 8, .op (.alloc (.box [(.str []), (.int .i64 0), (.int .i64 0)])), none, 10, [], [], false⟩,
  ⟨none, .op (.store 7 (.t 7) (.t 46)), none, 11, [], [], false⟩,
  ⟨none, .op (.store 3 (.t 8) (.t 47)), none, 12, [], [], false⟩,
  ⟨some 9, .op (.mov (.t 48)), none, 13, [], [], false⟩,
  ⟨some 10, .op (.mov (.t 49)), none, 14, [], [], false⟩])
  (.seq (.seqr [
  ⟨some 51, .op (.mov (.t 3)), none, 0, [], [], false⟩,
  ⟨some 52, .op (.mov (.t 5)), none, 1, [], [], false⟩,
  ⟨some 53, .call n_law28_key [(.c (.str [115, 101, 115, 115, 105, 111, 110]))], none, 2, [], [], false⟩,
  ⟨some 54, .call n_tgs_Server_Grant [(.t 51), (.t 52), (.t 53), (.c (.int .i64 5))], none, 3, [], [], false⟩,
  ⟨some 50, .op (.mov (.t 54)), none, 4, [], [], false⟩,
  ⟨some 55, .op (.ext 0 (.t 50)), none, 5, [], [], false⟩,
  ⟨some 56, .op (.ext 1 (.t 50)), none, 6, [], [], false⟩,
  ⟨some 57, .op (.ext 2 (.t 50)), none, 7, [], [], false⟩,
  ⟨some 58, .op (.ext 3 (.t 50)), none, 8, [], [], false⟩,
  ⟨some 11, .op (.alloc (.box [(.str []), (.str []), .nils, (.int .i64 0), (.int .i64 0), (.int .i64 0), (.int .i64 0)])), none, 9, [], [], false⟩,
  ⟨some 12, .op (.alloc (.box [(.str []), (.int .i64 0), (.int .i64 0)])), none, 10, [], [], false⟩,
  ⟨none, .op (.store 7 (.t 11) (.t 55)), none, 11, [], [], false⟩,
  ⟨none, .op (.store 3 (.t 12) (.t 56)), none, 12, [], [], false⟩,
  ⟨some 13, .op (.mov (.t 57)), none, 13, [], [], false⟩,
  ⟨some 14, .op (.mov (.t 58)), none, 14, [], [], false⟩])
  (.seq (.seqr [
  ⟨some 59, .op (.mov (.t 9)), none, 0, [], [], false⟩,
  ⟨some 60, .op (.bin .eql (.t 59) (.c (.int .i64 0))), none, 1, [], [], false⟩,
  ⟨some 61, .op (.mov (.t 60)), none, 2, [], [], false⟩,
  ⟨some 62, .op (.mov (.t 10)), some (61, true), 3, [], [], false⟩,
  ⟨some 63, .op (.bin .eql (.t 62) (.c (.int .i64 0))), some (61, true), 4, [], [], false⟩,
  ⟨some 64, .op (.pick (.t 61) (.t 63) (.c (.bool false))), none, 5, [], [], false⟩,
  ⟨some 65, .op (.mov (.t 64)), none, 6, [], [], false⟩,
  ⟨some 66, .op (.faddr 3 (.t 7)), some (65, true), 7, [], [], false⟩,
  ⟨some 67, .op (.load 1 false (.t 66)), some (65, true), 8, [], [], false⟩,
  ⟨some 68, .op (.bin .eql (.t 67) (.c (.int .i64 5))), some (65, true), 9, [], [], false⟩,
  ⟨some 69, .op (.pick (.t 65) (.t 68) (.c (.bool false))), none, 10, [], [], false⟩,
  ⟨some 70, .op (.mov (.t 69)), none, 11, [], [], false⟩,
  ⟨some 71, .op (.faddr 4 (.t 7)), some (70, true), 12, [], [], false⟩,
  ⟨some 72, .op (.load 1 false (.t 71)), some (70, true), 13, [], [], false⟩,
  ⟨some 73, .op (.bin .eql (.t 72) (.c (.int .i64 50))), some (70, true), 14, [], [], false⟩,
  ⟨some 74, .op (.pick (.t 70) (.t 73) (.c (.bool false))), none, 15, [], [], false⟩,
  ⟨some 75, .op (.mov (.t 74)), none, 16, [], [], false⟩,
  ⟨some 76, .op (.faddr 1 (.t 7)), some (75, true), 17, [], [], false⟩,
  ⟨some 77, .op (.load 1 false (.t 76)), some (75, true), 18, [], [], false⟩,
  ⟨some 78, .op (.bin .eql (.t 77) (.c (.str [115]))), some (75, true), 19, [], [], false⟩,
  ⟨some 79, .op (.pick (.t 75) (.t 78) (.c (.bool false))), none, 20, [], [], false⟩,
  ⟨some 80, .op (.mov (.t 79)), none, 21, [], [], false⟩,
  ⟨some 81, .op (.faddr 2 (.t 8)), some (80, true), 22, [], [], false⟩,
  ⟨some 82, .op (.load 1 false (.t 81)), some (80, true), 23, [], [], false⟩,
  ⟨some 83, .op (.bin .eql (.t 82) (.c (.int .i64 1))), some (80, true), 24, [], [], false⟩,
  ⟨some 84, .op (.pick (.t 80) (.t 83) (.c (.bool false))), none, 25, [], [], false⟩,
  ⟨some 85, .op (.mov (.t 84)), none, 26, [], [], false⟩,
  ⟨some 86, .op (.mov (.t 13)), some (85, true), 27, [], [], false⟩,
  ⟨some 87, .op (.bin .eql (.t 86) (.c (.int .i64 34))), some (85, true), 28, [], [], false⟩,
  ⟨some 88, .op (.pick (.t 85) (.t 87) (.c (.bool false))), none, 29, [], [], false⟩,
  ⟨some 0, .op (.mov (.t 88)), none, 30, [], [], false⟩])
  (.ret))))))))⟩
/-! seneschal/seneschallaw28.books -/
def l_law28_books_0 : DCode := .seq (.seq (.seqr [
  ⟨some 13, .op (.mov (.t 5)), none, 0, [], [], false⟩,
  ⟨some 14, .op (.mov (.t 4)), none, 1, [], [], false⟩,
  ⟨some 15, .op (.lenL (.t 14)), none, 2, [], [], false⟩,
  ⟨some 16, .op (.bin .lss (.t 13) (.t 15)), none, 3, [], [], false⟩,
  ⟨some 17, .op (.mov (.t 16)), none, 4, [], [], false⟩,
  ⟨some 18, .op (.mov (.t 2)), some (17, true), 5, [], [], false⟩,
  ⟨some 19, .op (.eqv 1 true false [] (.t 18) (.c .nilp)), some (17, true), 6, [], [], false⟩,
  ⟨some 20, .op (.pick (.t 17) (.t 19) (.c (.bool false))), none, 7, [], [], false⟩])
  (.cond (.t 20)
  (.skip)
  (.exit 0)))
  (.seq (.block 1 (.seq (.seqr [
  ⟨some 23, .op (.mov (.t 4)), none, 0, [], [], false⟩,
  ⟨some 24, .op (.mov (.t 5)), none, 1, [], [], false⟩,
  ⟨some 25, .op (.mov (.t 4)), none, 2, [], [], false⟩,
  ⟨some 26, .op (.mov (.t 5)), none, 3, [], [], false⟩,
  ⟨some 27, .op (.iaddr none 5 (.t 25) (.t 26)), none, 4, [], [], false⟩,
  ⟨some 28, .op (.faddr 0 (.t 27)), none, 5, [], [], false⟩,
  ⟨some 29, .op (.load 1 false (.t 28)), none, 6, [], [], false⟩,
  ⟨some 30, .call n_law28_key [(.t 29)], none, 7, [], [], false⟩,
  ⟨some 31, .op (.iaddr none 5 (.t 23) (.t 24)), none, 8, [], [], false⟩,
  ⟨some 32, .op (.faddr 1 (.t 31)), none, 9, [], [], false⟩,
  ⟨none, .op (.store 1 (.t 32) (.t 30)), none, 10, [], [], false⟩])
  (.seq (.seqr [
  ⟨some 33, .op (.mov (.t 2)), none, 0, [], [], false⟩,
  ⟨some 34, .op (.mov (.t 4)), none, 1, [], [], false⟩,
  ⟨some 35, .op (.mov (.t 5)), none, 2, [], [], false⟩,
  ⟨some 36, .op (.iaddr none 5 (.t 34) (.t 35)), none, 3, [], [], false⟩,
  ⟨some 37, .op (.load 5 true (.t 36)), none, 4, [], [], false⟩,
  ⟨some 38, .call n_who_Book_Add [(.t 33), (.t 37)], none, 5, [], [], false⟩])
  (.drwr [
  ⟨some 39, .op (.mov (.t 3)), none, 0, [], [], false⟩,
  ⟨some 40, .op (.mov (.t 4)), none, 1, [], [], false⟩,
  ⟨some 41, .op (.mov (.t 5)), none, 2, [], [], false⟩,
  ⟨some 42, .op (.iaddr none 5 (.t 40) (.t 41)), none, 3, [], [], false⟩,
  ⟨some 43, .op (.faddr 0 (.t 42)), none, 4, [], [], false⟩,
  ⟨some 44, .op (.load 1 false (.t 43)), none, 5, [], [], false⟩,
  ⟨some 45, .op (.mov (.t 4)), none, 6, [], [], false⟩,
  ⟨some 46, .op (.mov (.t 5)), none, 7, [], [], false⟩,
  ⟨some 47, .op (.iaddr none 5 (.t 45) (.t 46)), none, 8, [], [], false⟩,
  ⟨some 48, .op (.faddr 1 (.t 47)), none, 9, [], [], false⟩,
  ⟨some 49, .op (.load 1 false (.t 48)), none, 10, [], [], false⟩,
  ⟨some 50, .op (.mov (.t 4)), none, 11, [], [], false⟩,
  ⟨some 51, .op (.mov (.t 5)), none, 12, [], [], false⟩,
  ⟨some 52, .op (.iaddr none 5 (.t 50) (.t 51)), none, 13, [], [], false⟩,
  ⟨some 53, .op (.faddr 2 (.t 52)), none, 14, [], [], false⟩,
  ⟨some 54, .op (.load 1 false (.t 53)), none, 15, [], [], false⟩,
  ⟨some 55, .op (.mov (.t 4)), none, 16, [], [], false⟩,
  ⟨some 56, .op (.mov (.t 5)), none, 17, [], [], false⟩,
  ⟨some 57, .op (.iaddr none 5 (.t 55) (.t 56)), none, 18, [], [], false⟩,
  ⟨some 58, .op (.faddr 3 (.t 57)), none, 19, [], [], false⟩,
  ⟨some 59, .op (.load 1 false (.t 58)), none, 20, [], [], false⟩,
  ⟨some 60, .op (.mov (.t 4)), none, 21, [], [], false⟩,
  ⟨some 61, .op (.mov (.t 5)), none, 22, [], [], false⟩,
  ⟨some 62, .op (.iaddr none 5 (.t 60) (.t 61)), none, 23, [], [], false⟩,
  ⟨some 63, .op (.faddr 4 (.t 62)), none, 24, [], [], false⟩,
  ⟨some 64, .op (.load 1 false (.t 63)), none, 25, [], [], false⟩,
  ⟨some 65, .op (.build [(.str []), .nils, (.int .i64 0), (.int .i64 0), (.int .i64 0)] [(0, 1, (.t 44)), (1, 1, (.t 49)), (2, 1, (.t 54)), (3, 1, (.t 59)), (4, 1, (.t 64))]), none, 26, [], [], false⟩,
  ⟨some 66, .call n_ref19_Book_Add [(.t 39), (.t 65)], none, 27, [], [], false⟩]))))
  (.seqr [
  ⟨some 21, .op (.mov (.t 5)), none, 0, [], [], false⟩,
  ⟨some 22, .op (.bin .add (.t 21) (.c (.int .i64 1))), none, 1, [], [], false⟩,
  ⟨some 5, .op (.mov (.t 22)), none, 2, [], [], false⟩]))
def d_law28_books : DFun := ⟨69, [], [.tmp 0, .tmp 1],
 .seq (.seqr [
  ⟨some 0, .op (.mov (.c .nilp)), none, 0, [], [], false⟩,
  ⟨some 1, .op (.mov (.c .nilp)), none, 1, [], [], false⟩])
  (.seq (.seqr [
  ⟨some 6, .call n_who_Make [], none, 0, [], [], false⟩,
  ⟨some 7, .call n_ref19_Make [], none, 1, [], [], false⟩,
  ⟨some 2, .op (.mov (.t 6)), none, 2, [], [], false⟩,
  ⟨some 3, .op (.mov (.t 7)), none, 3, [], [], false⟩])
  (.seq (.seqr [
  ⟨some 8, .op (.build [(.str []), .nils, (.int .i64 0), (.int .i64 0), (.int .i64 0)] [(0, 1, (.c (.str [99]))), (2, 1, (.c (.int .i64 13))), (3, 1, (.c (.int .i64 100))), (4, 1, (.c (.int .i64 300)))]), none, 0, [], [], false⟩,
  ⟨some 9, .op (.build [(.str []), .nils, (.int .i64 0), (.int .i64 0), (.int .i64 0)] [(0, 1, (.c (.str [100]))), (2, 1, (.c (.int .i64 0))), (3, 1, (.c (.int .i64 10))), (4, 1, (.c (.int .i64 10)))]), none, 1, [], [], false⟩,
  ⟨some 10, .op (.build [(.str []), .nils, (.int .i64 0), (.int .i64 0), (.int .i64 0)] [(0, 1, (.c (.str [115]))), (2, 1, (.c (.int .i64 14))), (3, 1, (.c (.int .i64 200))), (4, 1, (.c (.int .i64 200)))]), none, 2, [], [], false⟩,
  ⟨some 11, .op (.build [(.str []), .nils, (.int .i64 0), (.int .i64 0), (.int .i64 0)] [(0, 1, (.c (.str [116]))), (2, 1, (.c (.int .i64 2))), (3, 1, (.c (.int .i64 30))), (4, 1, (.c (.int .i64 30)))]), none, 3, [], [], false⟩,
  ⟨some 12, .op (.bsl 5 [(.agg [(.str []), .nils, (.int .i64 0), (.int .i64 0), (.int .i64 0)]), (.agg [(.str []), .nils, (.int .i64 0), (.int .i64 0), (.int .i64 0)]), (.agg [(.str []), .nils, (.int .i64 0), (.int .i64 0), (.int .i64 0)]), (.agg [(.str []), .nils, (.int .i64 0), (.int .i64 0), (.int .i64 0)])] [(0, (.t 8)), (1, (.t 9)), (2, (.t 10)), (3, (.t 11))]), none, 4, [], [], false⟩,
  ⟨some 4, .op (.mov (.t 12)), none, 5, [], [], false⟩])
  (.seq (.seq (.seqr [
  ⟨some 5, .op (.mov (.c (.int .i64 0))), none, 0, [], [], false⟩])
  (.block 0 (.loop [2, 3, 4, 5] l_law28_books_0)))
  (.seq (.seqr [
  ⟨some 67, .op (.mov (.t 2)), none, 0, [], [], false⟩,
  ⟨some 68, .op (.mov (.t 3)), none, 1, [], [], false⟩,
  ⟨some 0, .op (.mov (.t 67)), none, 2, [], [], false⟩,
  ⟨some 1, .op (.mov (.t 68)), none, 3, [], [], false⟩])
  (.ret)))))⟩
/-! seneschal/tgs.Make -/
def d_tgs_Make : DFun := ⟨42, [false, true, true], [.tmp 6, .tmp 7],
 .seq (.seqr [
  ⟨some 6, .op (.mov (.c .nilp)), none, 0, [], [], false⟩,
  ⟨some 7, .op (.mov (.c (.int .i64 0))), none, 1, [], [], false⟩])
  (.seq (.seq (.seqr [
  ⟨some 13, .op (.mov (.t 0)), none, 0, [], [], false⟩,
  ⟨some 14, .call n_who_Book_Find [(.t 13), (.c (.str []))], none, 1, [], [], false⟩,
  ⟨some 12, .op (.mov (.t 14)), none, 2, [], [], false⟩,
  ⟨some 15, .op (.ext 0 (.t 12)), none, 3, [], [], false⟩,
  ⟨some 16, .op (.ext 1 (.t 12)), none, 4, [], [], false⟩,
  ⟨some 8, .op (.alloc (.box [(.str []), .nils, (.int .i64 0), (.int .i64 0), (.int .i64 0)])), none, 5, [], [], false⟩,
  ⟨none, .op (.store 5 (.t 8) (.t 15)), none, 6, [], [], false⟩,
  ⟨some 9, .op (.mov (.t 16)), none, 7, [], [], false⟩])
  (.seq (.seqr [
  ⟨some 17, .op (.mov (.t 9)), none, 0, [], [], false⟩,
  ⟨some 18, .op (.bin .eql (.t 17) (.c (.int .i64 1))), none, 1, [], [], false⟩])
  (.cond (.t 18)
  (.seq (.seqr [
   ⟨some 19, .op (.mov (.t 9)), none, 0, [], [], false⟩,
   ⟨some 6, .op (.mov (.c .nilp)), none, 1, [], [], false⟩,
   ⟨some 7, .op (.mov (.t 19)), none, 2, [], [], false⟩])
   (.ret))
  (.skip))))
  (.seq (.seq (.seqr [
  ⟨some 20, .op (.mov (.t 2)), none, 0, [], [], false⟩,
  ⟨some 21, .op (.bin .lss (.t 20) (.c (.int .i64 0))), none, 1, [], [], false⟩,
  ⟨some 22, .op (.mov (.t 21)), none, 2, [], [], false⟩,
  ⟨some 23, .op (.mov (.t 2)), some (22, false), 3, [], [], false⟩,
  ⟨some 24, .op (.bin .gtr (.t 23) (.c (.int .i64 549755813888))), some (22, false), 4, [], [], false⟩,
  ⟨some 25, .op (.pick (.t 22) (.c (.bool true)) (.t 24)), none, 5, [], [], false⟩])
  (.cond (.t 25)
  (.seq (.seqr [
   ⟨some 6, .op (.mov (.c .nilp)), none, 0, [], [], false⟩,
   ⟨some 7, .op (.mov (.c (.int .i64 2))), none, 1, [], [], false⟩])
   (.ret))
  (.skip)))
  (.seq (.seqr [
  ⟨some 27, .op (.mov (.t 1)), none, 0, [], [], false⟩,
  ⟨some 28, .op (.mov (.t 2)), none, 1, [], [], false⟩,
  ⟨some 29, .op (.bin .mul (.c (.int .i64 2)) (.t 28)), none, 2, [], [], false⟩,
  ⟨some 30, .call n_cache_MakeReplay [(.t 27), (.t 29)], none, 3, [], [], false⟩,
  ⟨some 26, .op (.mov (.t 30)), none, 4, [], [], false⟩,
  ⟨some 31, .op (.ext 0 (.t 26)), none, 5, [], [], false⟩,
  ⟨some 32, .op (.ext 1 (.t 26)), none, 6, [], [], false⟩,
  ⟨some 10, .op (.mov (.t 31)), none, 7, [], [], false⟩,
  ⟨some 11, .op (.mov (.t 32)), none, 8, [], [], false⟩])
  (.seq (.seq (.seqr [
  ⟨some 33, .op (.mov (.t 11)), none, 0, [], [], false⟩,
  ⟨some 34, .op (.bin .neq (.t 33) (.c (.int .i64 0))), none, 1, [], [], false⟩])
  (.cond (.t 34)
  (.seq (.seqr [
   ⟨some 35, .op (.mov (.t 11)), none, 0, [], [], false⟩,
   ⟨some 6, .op (.mov (.c .nilp)), none, 1, [], [], false⟩,
   ⟨some 7, .op (.mov (.t 35)), none, 2, [], [], false⟩])
   (.ret))
  (.skip)))
  (.seq (.seqr [
  ⟨some 36, .op (.mov (.t 0)), none, 0, [], [], false⟩,
  ⟨some 37, .op (.mov (.t 10)), none, 1, [], [], false⟩,
  ⟨some 38, .op (.mov (.t 2)), none, 2, [], [], false⟩,
  ⟨some 39, .op (.build [.nilp, .nilp, (.int .i64 0)] [(0, 1, (.t 36)), (1, 1, (.t 37)), (2, 1, (.t 38))]), none, 3, [], [], false⟩,
  ⟨some 40, .op (.box 0 (.t 39)), none, 4, [], [], false⟩,
  ⟨some 41, .op (.mov (.t 11)), none, 5, [], [], false⟩,
  ⟨some 6, .op (.mov (.t 40)), none, 6, [], [], false⟩,
  ⟨some 7, .op (.mov (.t 41)), none, 7, [], [], false⟩])
  (.ret))))))⟩
/-! (*seneschal/tgs.Server).Grant -/
def d_tgs_Server_Grant : DFun := ⟨77, [false, true, true, true], [.cell 8 7 true, .cell 9 3 true, .tmp 10, .tmp 11],
 .seq (.seqr [
  ⟨some 8, .op (.alloc (.box [(.str []), (.str []), .nils, (.int .i64 0), (.int .i64 0), (.int .i64 0), (.int .i64 0)])), none, 0, [], [], false⟩,
  ⟨some 9, .op (.alloc (.box [(.str []), (.int .i64 0), (.int .i64 0)])), none, 1, [], [], false⟩,
  ⟨some 10, .op (.mov (.c (.int .i64 0))), none, 2, [], [], false⟩,
  ⟨some 11, .op (.mov (.c (.int .i64 0))), none, 3, [], [], false⟩])
  (.seq (.block 0 (.seq (.seqr [
  ⟨some 17, .op (.mov (.t 0)), none, 0, [], [], false⟩,
  ⟨some 18, .op (.eqv 1 false false [] (.t 17) (.c .nilp)), none, 1, [], [], false⟩,
  ⟨some 19, .op (.mov (.t 18)), none, 2, [], [], false⟩,
  ⟨some 20, .op (.mov (.t 0)), some (19, false), 3, [], [], false⟩,
  ⟨some 21, .op (.nilchk (.t 20)), some (19, false), 4, [], [], false⟩,
  ⟨some 22, .op (.faddr 1 (.t 21)), some (19, false), 5, [], [], false⟩,
  ⟨some 23, .op (.load 1 false (.t 22)), some (19, false), 6, [], [], false⟩,
  ⟨some 24, .op (.eqv 1 false false [] (.t 23) (.c .nilp)), some (19, false), 7, [], [], false⟩,
  ⟨some 25, .op (.pick (.t 19) (.c (.bool true)) (.t 24)), none, 8, [], [], false⟩,
  ⟨some 16, .op (.mov (.t 25)), none, 9, [], [], false⟩])
  (.cond (.t 16)
  (.seq (.seqr [
   ⟨some 26, .op (.build [(.str []), (.str []), .nils, (.int .i64 0), (.int .i64 0), (.int .i64 0), (.int .i64 0)] []), none, 0, [], [], false⟩,
   ⟨some 27, .op (.build [(.str []), (.int .i64 0), (.int .i64 0)] []), none, 1, [], [], false⟩,
   ⟨none, .op (.store 7 (.t 8) (.t 26)), none, 2, [], [], false⟩,
   ⟨none, .op (.store 3 (.t 9) (.t 27)), none, 3, [], [], false⟩,
   ⟨some 10, .op (.mov (.c (.int .i64 0))), none, 4, [], [], false⟩,
   ⟨some 11, .op (.mov (.c (.int .i64 1))), none, 5, [], [], false⟩])
   (.ret))
  (.seq (.seqr [
   ⟨some 29, .op (.mov (.t 2)), none, 0, [], [], false⟩,
   ⟨some 30, .op (.lenL (.t 29)), none, 1, [], [], false⟩,
   ⟨some 31, .op (.bin .neq (.t 30) (.c (.int .i64 16))), none, 2, [], [], false⟩,
   ⟨some 32, .op (.mov (.t 31)), none, 3, [], [], false⟩,
   ⟨some 33, .op (.mov (.t 3)), some (32, false), 4, [], [], false⟩,
   ⟨some 34, .op (.bsl 1 [(.int .i64 0)] [(0, (.t 33))]), some (32, false), 5, [], [], false⟩,
   ⟨some 35, .call n_tgs_times [(.t 34)], some (32, false), 6, [], [], false⟩,
   ⟨some 36, .op (.un .not (.t 35)), some (32, false), 7, [], [], false⟩,
   ⟨some 37, .op (.pick (.t 32) (.c (.bool true)) (.t 36)), none, 8, [], [], false⟩,
   ⟨some 38, .op (.mov (.t 37)), none, 9, [], [], false⟩,
   ⟨some 39, .op (.mov (.t 1)), some (38, false), 10, [], [], false⟩,
   ⟨some 40, .op (.lenL (.t 39)), some (38, false), 11, [], [], false⟩,
   ⟨some 41, .op (.bin .gtr (.t 40) (.c (.int .i64 4096))), some (38, false), 12, [], [], false⟩,
   ⟨some 42, .op (.pick (.t 38) (.c (.bool true)) (.t 41)), none, 13, [], [], false⟩,
   ⟨some 28, .op (.mov (.t 42)), none, 14, [], [], false⟩])
   (.cond (.t 28)
   (.seq (.seqr [
    ⟨some 43, .op (.build [(.str []), (.str []), .nils, (.int .i64 0), (.int .i64 0), (.int .i64 0), (.int .i64 0)] []), none, 0, [], [], false⟩,
    ⟨some 44, .op (.build [(.str []), (.int .i64 0), (.int .i64 0)] []), none, 1, [], [], false⟩,
    ⟨none, .op (.store 7 (.t 8) (.t 43)), none, 2, [], [], false⟩,
    ⟨none, .op (.store 3 (.t 9) (.t 44)), none, 3, [], [], false⟩,
    ⟨some 10, .op (.mov (.c (.int .i64 0))), none, 4, [], [], false⟩,
    ⟨some 11, .op (.mov (.c (.int .i64 2))), none, 5, [], [], false⟩])
    (.ret))
   (.skip))))))
  (.seq (.seqr [
  ⟨some 46, .op (.mov (.t 1)), none, 0, [], [], false⟩,
  ⟨some 47, .op (.mov (.t 2)), none, 1, [], [], false⟩,
  ⟨some 48, .call n_tgs_opened [(.t 46), (.t 47)], none, 2, [], [], false⟩,
  ⟨some 45, .op (.mov (.t 48)), none, 3, [], [], false⟩,
  ⟨some 49, .op (.ext 0 (.t 45)), none, 4, [], [], false⟩,
  ⟨some 50, .op (.ext 1 (.t 45)), none, 5, [], [], false⟩,
  ⟨some 12, .op (.alloc (.box [(.str []), (.str []), .nils, (.int .i64 0), (.int .i64 0), (.int .i64 0), (.int .i64 0), (.str []), (.int .i64 0), (.int .i64 0), (.int .i64 0), (.str []), (.int .i64 0), (.int .i64 0), (.int .i64 0), (.int .i64 0)])), none, 6, [], [], false⟩,
  ⟨none, .op (.store 16 (.t 12) (.t 49)), none, 7, [], [], false⟩,
  ⟨some 13, .op (.mov (.t 50)), none, 8, [], [], false⟩])
  (.seq (.seq (.seqr [
  ⟨some 51, .op (.mov (.t 13)), none, 0, [], [], false⟩,
  ⟨some 52, .op (.mki t_api_Errno (.c (.int .i64 200))), none, 1, [], [], false⟩,
  ⟨some 53, .call n_errors_Is [(.t 51), (.t 52)], none, 2, [], [], false⟩,
  ⟨some 54, .op (.mov (.t 53)), none, 3, [], [], false⟩,
  ⟨some 55, .op (.mov (.t 13)), some (54, false), 4, [], [], false⟩,
  ⟨some 56, .op (.mki t_api_Errno (.c (.int .i64 80))), some (54, false), 5, [], [], false⟩,
  ⟨some 57, .call n_errors_Is [(.t 55), (.t 56)], some (54, false), 6, [], [], false⟩,
  ⟨some 58, .op (.pick (.t 54) (.c (.bool true)) (.t 57)), none, 7, [], [], false⟩])
  (.cond (.t 58)
  (.seq (.seqr [
   ⟨some 59, .op (.build [(.str []), (.str []), .nils, (.int .i64 0), (.int .i64 0), (.int .i64 0), (.int .i64 0)] []), none, 0, [], [], false⟩,
   ⟨some 60, .op (.build [(.str []), (.int .i64 0), (.int .i64 0)] []), none, 1, [], [], false⟩,
   ⟨none, .op (.store 7 (.t 8) (.t 59)), none, 2, [], [], false⟩,
   ⟨none, .op (.store 3 (.t 9) (.t 60)), none, 3, [], [], false⟩,
   ⟨some 10, .op (.mov (.c (.int .i64 41))), none, 4, [], [], false⟩,
   ⟨some 11, .op (.mov (.c (.int .i64 0))), none, 5, [], [], false⟩])
   (.ret))
  (.skip)))
  (.seq (.seqr [
  ⟨some 62, .op (.mov (.t 0)), none, 0, [], [], false⟩,
  ⟨some 63, .op (.load 16 true (.t 12)), none, 1, [], [], false⟩,
  ⟨some 64, .op (.mov (.t 3)), none, 2, [], [], false⟩,
  ⟨some 65, .call n_tgs_Server_judge [(.t 62), (.t 63), (.t 64)], none, 3, [], [], false⟩,
  ⟨some 61, .op (.mov (.t 65)), none, 4, [], [], false⟩,
  ⟨some 66, .op (.ext 0 (.t 61)), none, 5, [], [], false⟩,
  ⟨some 67, .op (.ext 1 (.t 61)), none, 6, [], [], false⟩,
  ⟨some 14, .op (.alloc (.box [(.str []), (.str []), .nils, (.int .i64 0), (.int .i64 0), (.int .i64 0), (.int .i64 0)])), none, 7, [], [], false⟩,
  ⟨none, .op (.store 7 (.t 14) (.t 66)), none, 8, [], [], false⟩,
  ⟨some 15, .op (.mov (.t 67)), none, 9, [], [], false⟩])
  (.seq (.seq (.seqr [
  ⟨some 68, .op (.mov (.t 15)), none, 0, [], [], false⟩,
  ⟨some 69, .op (.bin .neq (.t 68) (.c (.int .i64 0))), none, 1, [], [], false⟩])
  (.cond (.t 69)
  (.seq (.seqr [
   ⟨some 70, .op (.build [(.str []), (.str []), .nils, (.int .i64 0), (.int .i64 0), (.int .i64 0), (.int .i64 0)] []), none, 0, [], [], false⟩,
   ⟨some 71, .op (.build [(.str []), (.int .i64 0), (.int .i64 0)] []), none, 1, [], [], false⟩,
   ⟨some 72, .op (.mov (.t 15)), none, 2, [], [], false⟩,
   ⟨none, .op (.store 7 (.t 8) (.t 70)), none, 3, [], [], false⟩,
   ⟨none, .op (.store 3 (.t 9) (.t 71)), none, 4, [], [], false⟩,
   ⟨some 10, .op (.mov (.t 72)), none, 5, [], [], false⟩,
   ⟨some 11, .op (.mov (.c (.int .i64 0))), none, 6, [], [], false⟩])
   (.ret))
  (.skip)))
  (.seq (.drwr [
  ⟨some 73, .op (.load 7 true (.t 14)), none, 0, [], [], false⟩,
  ⟨some 74, .op (.faddr 7 (.t 12)), none, 1, [], [], false⟩,
  ⟨some 76, .op (.mov (.t 15)), none, 3, [], [], false⟩,
  ⟨none, .op (.store 7 (.t 8) (.t 73)), none, 4, [], [], false⟩,
  ⟨some 75, .op (.load 3 true (.t 74)), none, 2, [], [3], false⟩,
  ⟨none, .op (.store 3 (.t 9) (.t 75)), none, 5, [3], [], false⟩,
  ⟨some 10, .op (.mov (.t 76)), none, 6, [], [], false⟩,
  ⟨some 11, .op (.mov (.c (.int .i64 0))), none, 7, [], [], false⟩])
  (.ret)))))))⟩
/-! seneschal/seneschalbase.Among -/
def d_base_Among : DFun := ⟨13, [true, true], [.tmp 4],
 .seq (.seqr [
  ⟨some 4, .op (.mov (.c (.int .i64 0))), none, 0, [], [], false⟩])
  (.seq (.seq (.seqr [
  ⟨some 5, .op (.mov (.t 1)), none, 0, [], [], false⟩,
  ⟨some 6, .op (.bin .lss (.t 5) (.c (.int .i64 1))), none, 1, [], [], false⟩])
  (.cond (.t 6)
  (.seq (.seqr [
   ⟨some 4, .op (.mov (.c (.int .i64 0))), none, 0, [], [], false⟩])
   (.ret))
  (.skip)))
  (.seq (.seqr [
  ⟨some 7, .op (.mov (.t 0)), none, 0, [], [], false⟩,
  ⟨some 8, .op (.conv .u64 (.t 7)), none, 1, [], [], false⟩,
  ⟨some 9, .op (.mov (.t 1)), none, 2, [], [], false⟩,
  ⟨some 10, .op (.conv .u64 (.t 9)), none, 3, [], [], false⟩,
  ⟨some 11, .op (.bin .rem (.t 8) (.t 10)), none, 4, [], [], false⟩,
  ⟨some 12, .op (.conv .i64 (.t 11)), none, 5, [], [], false⟩,
  ⟨some 4, .op (.mov (.t 12)), none, 6, [], [], false⟩])
  (.ret)))⟩
/-! seneschal/seneschallaw28.key -/
def l_law28_key_0 : DCode := .seq (.seq (.seqr [
  ⟨some 6, .op (.mov (.t 4)), none, 0, [], [], false⟩,
  ⟨some 7, .op (.bin .lss (.t 6) (.c (.int .i64 16))), none, 1, [], [], false⟩])
  (.cond (.t 7)
  (.skip)
  (.exit 0)))
  (.seq (.block 1 (.seq (.seqr [
  ⟨some 10, .op (.mov (.t 3)), none, 0, [], [], false⟩,
  ⟨some 11, .op (.mov (.t 4)), none, 1, [], [], false⟩,
  ⟨some 12, .op (.mov (.t 4)), none, 2, [], [], false⟩,
  ⟨some 13, .op (.bin .mul (.c (.int .i64 5)) (.t 12)), none, 3, [], [], false⟩,
  ⟨some 14, .op (.conv .u8 (.t 13)), none, 4, [], [], false⟩,
  ⟨some 15, .op (.iaddr none 1 (.t 10) (.t 11)), none, 5, [], [], false⟩,
  ⟨none, .op (.store 1 (.t 15) (.t 14)), none, 6, [], [], false⟩])
  (.seq (.seqr [
  ⟨some 16, .op (.mov (.t 4)), none, 0, [], [], false⟩,
  ⟨some 17, .op (.mov (.t 0)), none, 1, [], [], false⟩,
  ⟨some 18, .op (.lenS (.t 17)), none, 2, [], [], false⟩,
  ⟨some 19, .op (.bin .lss (.t 16) (.t 18)), none, 3, [], [], false⟩])
  (.cond (.t 19)
  (.seqr [
   ⟨some 20, .op (.mov (.t 3)), none, 0, [], [], false⟩,
   ⟨some 21, .op (.mov (.t 4)), none, 1, [], [], false⟩,
   ⟨some 22, .op (.mov (.t 0)), none, 2, [], [], false⟩,
   ⟨some 23, .op (.mov (.t 4)), none, 3, [], [], false⟩,
   ⟨some 24, .op (.idxS (.t 22) (.t 23)), none, 4, [], [], false⟩,
   ⟨some 25, .op (.iaddr none 1 (.t 20) (.t 21)), none, 5, [], [], false⟩,
   ⟨none, .op (.store 1 (.t 25) (.t 24)), none, 6, [], [], false⟩])
  (.skip)))))
  (.seqr [
  ⟨some 8, .op (.mov (.t 4)), none, 0, [], [], false⟩,
  ⟨some 9, .op (.bin .add (.t 8) (.c (.int .i64 1))), none, 1, [], [], false⟩,
  ⟨some 4, .op (.mov (.t 9)), none, 2, [], [], false⟩]))
def d_law28_key : DFun := ⟨27, [true], [.tmp 2],
 .seq (.seqr [
  ⟨some 2, .op (.mov (.c .nils)), none, 0, [], [], false⟩])
  (.seq (.seqr [
  ⟨some 5, .op (.mksl 1 (.int .u8 0) 1 (.c (.int .i64 16)) (.c (.int .i64 16))), none, 0, [], [], false⟩,
  ⟨some 3, .op (.mov (.t 5)), none, 1, [], [], false⟩])
  (.seq (.seq (.seqr [
  ⟨some 4, .op (.mov (.c (.int .i64 0))), none, 0, [], [], false⟩])
  (.block 0 (.loop [0, 3, 4] l_law28_key_0)))
  (.seq (.seqr [
  ⟨some 26, .op (.mov (.t 3)), none, 0, [], [], false⟩,
  ⟨some 2, .op (.mov (.t 26)), none, 1, [], [], false⟩])
  (.ret))))⟩
/-! seneschal/ticket.Bytes -/
def d_ticket_Bytes : DFun := ⟨31, [true], [.tmp 2, .tmp 3],
 .seq (.seqr [
  ⟨some 1, .op (.box 0 (.t 0)), none, 0, [], [], false⟩,
  ⟨some 2, .op (.mov (.c .nils)), none, 1, [], [], false⟩,
  ⟨some 3, .op (.mov (.c (.int .i64 0))), none, 2, [], [], false⟩])
  (.seq (.seq (.seqr [
  ⟨some 5, .op (.load 7 true (.t 1)), none, 0, [], [], false⟩,
  ⟨some 6, .call n_ticket_look [(.t 5)], none, 1, [], [], false⟩,
  ⟨some 4, .op (.mov (.t 6)), none, 2, [], [], false⟩])
  (.seq (.seqr [
  ⟨some 7, .op (.mov (.t 4)), none, 0, [], [], false⟩,
  ⟨some 8, .op (.eqv 3 true true [t_api_Errno, t_reflectlite_flag, t_abi_Kind] (.t 7) (.c .nili)), none, 1, [], [], false⟩])
  (.cond (.t 8)
  (.seq (.seqr [
   ⟨some 9, .op (.mov (.t 4)), none, 0, [], [], false⟩,
   ⟨some 10, .call n_ticket_number [(.t 9)], none, 1, [], [], false⟩,
   ⟨some 2, .op (.mov (.c .nils)), none, 2, [], [], false⟩,
   ⟨some 3, .op (.mov (.t 10)), none, 3, [], [], false⟩])
   (.ret))
  (.skip))))
  (.seq (.drwr [
  ⟨some 11, .op (.faddr 0 (.t 1)), none, 0, [], [], false⟩,
  ⟨some 14, .op (.faddr 1 (.t 1)), none, 3, [], [], false⟩,
  ⟨some 17, .op (.faddr 3 (.t 1)), none, 6, [], [], false⟩,
  ⟨some 18, .op (.load 1 false (.t 17)), none, 7, [], [], false⟩,
  ⟨some 19, .call n_wire_Int [(.t 18)], none, 8, [], [], false⟩,
  ⟨some 20, .op (.faddr 4 (.t 1)), none, 9, [], [], false⟩,
  ⟨some 21, .op (.load 1 false (.t 20)), none, 10, [], [4], false⟩,
  ⟨some 22, .call n_wire_Int [(.t 21)], none, 11, [4], [], false⟩,
  ⟨some 23, .op (.faddr 5 (.t 1)), none, 12, [], [], false⟩,
  ⟨some 24, .op (.load 1 false (.t 23)), none, 13, [], [4, 7], false⟩,
  ⟨some 25, .call n_wire_Int [(.t 24)], none, 14, [4, 7], [], false⟩,
  ⟨some 26, .op (.faddr 6 (.t 1)), none, 15, [], [], false⟩,
  ⟨some 27, .op (.load 1 false (.t 26)), none, 16, [], [4, 7, 10], false⟩,
  ⟨some 28, .call n_wire_Int [(.t 27)], none, 17, [4, 7, 10], [], false⟩,
  ⟨some 12, .op (.load 1 false (.t 11)), none, 1, [], [4, 7, 10, 13], false⟩,
  ⟨some 13, .op (.s2b (.t 12)), none, 2, [], [4, 7, 10, 13], false⟩,
  ⟨some 15, .op (.load 1 false (.t 14)), none, 4, [], [4, 7, 10, 13], false⟩,
  ⟨some 16, .op (.s2b (.t 15)), none, 5, [], [4, 7, 10, 13], false⟩,
  ⟨some 29, .op (.bsl 1 [.nils, .nils, .nils, .nils, .nils, .nils] [(0, (.t 13)), (1, (.t 16)), (2, (.t 19)), (3, (.t 22)), (4, (.t 25)), (5, (.t 28))]), none, 18, [4, 7, 10, 13, 15, 17], [], false⟩,
  ⟨some 30, .call n_ticket_value [(.t 29)], none, 19, [4, 7, 10, 13, 15, 17, 18], [], false⟩,
  ⟨some 2, .op (.mov (.t 30)), none, 20, [], [], false⟩,
  ⟨some 3, .op (.mov (.c (.int .i64 0))), none, 21, [], [], false⟩])
  (.ret)))⟩
/-! seneschal/ticket.Seal -/
def d_ticket_Seal : DFun := ⟨31, [true, true, true], [.tmp 6, .tmp 7],
 .seq (.seqr [
  ⟨some 5, .op (.box 0 (.t 2)), none, 0, [], [], false⟩,
  ⟨some 6, .op (.mov (.c .nils)), none, 1, [], [], false⟩,
  ⟨some 7, .op (.mov (.c (.int .i64 0))), none, 2, [], [], false⟩])
  (.seq (.seq (.seqr [
  ⟨some 9, .op (.load 3 true (.t 5)), none, 0, [], [], false⟩,
  ⟨some 10, .call n_ticket_right [(.t 9)], none, 1, [], [], false⟩,
  ⟨some 8, .op (.mov (.t 10)), none, 2, [], [], false⟩])
  (.seq (.seqr [
  ⟨some 11, .op (.mov (.t 8)), none, 0, [], [], false⟩,
  ⟨some 12, .op (.eqv 3 true true [t_api_Errno, t_reflectlite_flag, t_abi_Kind] (.t 11) (.c .nili)), none, 1, [], [], false⟩])
  (.cond (.t 12)
  (.seq (.seqr [
   ⟨some 13, .op (.mov (.t 8)), none, 0, [], [], false⟩,
   ⟨some 14, .call n_ticket_number [(.t 13)], none, 1, [], [], false⟩,
   ⟨some 6, .op (.mov (.c .nils)), none, 2, [], [], false⟩,
   ⟨some 7, .op (.mov (.t 14)), none, 3, [], [], false⟩])
   (.ret))
  (.skip))))
  (.seq (.drwr [
  ⟨some 15, .op (.mov (.t 0)), none, 0, [], [], false⟩,
  ⟨some 16, .op (.mov (.t 1)), none, 1, [], [], false⟩,
  ⟨some 17, .op (.faddr 0 (.t 5)), none, 2, [], [], false⟩,
  ⟨some 20, .op (.faddr 1 (.t 5)), none, 5, [], [], false⟩,
  ⟨some 21, .op (.load 1 false (.t 20)), none, 6, [], [], false⟩,
  ⟨some 22, .call n_wire_Int [(.t 21)], none, 7, [], [], false⟩,
  ⟨some 23, .op (.faddr 2 (.t 5)), none, 8, [], [], false⟩,
  ⟨some 24, .op (.load 1 false (.t 23)), none, 9, [], [5], false⟩,
  ⟨some 25, .call n_wire_Int [(.t 24)], none, 10, [5], [], false⟩,
  ⟨some 18, .op (.load 1 false (.t 17)), none, 3, [], [5, 8], false⟩,
  ⟨some 19, .op (.s2b (.t 18)), none, 4, [], [5, 8], false⟩,
  ⟨some 26, .op (.bsl 1 [.nils, .nils, .nils] [(0, (.t 19)), (1, (.t 22)), (2, (.t 25))]), none, 11, [5, 8, 10], [], false⟩,
  ⟨some 27, .call n_ticket_value [(.t 26)], none, 12, [5, 8, 10, 11], [], false⟩,
  ⟨some 28, .call n_seal_Seal [(.t 15), (.c (.int .i64 11)), (.t 16), (.t 27)], none, 13, [5, 8, 10, 11, 12], [], false⟩,
  ⟨some 29, .op (.ext 0 (.t 28)), none, 14, [], [], false⟩,
  ⟨some 30, .op (.ext 1 (.t 28)), none, 15, [], [], false⟩,
  ⟨some 6, .op (.mov (.t 29)), none, 16, [], [], false⟩,
  ⟨some 7, .op (.mov (.t 30)), none, 17, [], [], false⟩])
  (.ret)))⟩
/-! (seneschal/tgs.Want).numbers -/
def d_tgs_Want_numbers : DFun := ⟨14, [true], [.cell 2 5 true],
 .seq (.seqr [
  ⟨some 1, .op (.box 0 (.t 0)), none, 0, [], [], false⟩,
  ⟨some 2, .op (.alloc (.row [(.int .i64 0), (.int .i64 0), (.int .i64 0), (.int .i64 0), (.int .i64 0)] 1)), none, 1, [], [], false⟩])
  (.seq (.seqr [
  ⟨some 3, .op (.faddr 0 (.t 1)), none, 0, [], [], false⟩,
  ⟨some 4, .op (.load 1 false (.t 3)), none, 1, [], [], false⟩,
  ⟨some 5, .op (.faddr 2 (.t 1)), none, 2, [], [], false⟩,
  ⟨some 6, .op (.load 1 false (.t 5)), none, 3, [], [], false⟩,
  ⟨some 7, .op (.faddr 3 (.t 1)), none, 4, [], [], false⟩,
  ⟨some 8, .op (.load 1 false (.t 7)), none, 5, [], [], false⟩,
  ⟨some 9, .op (.faddr 4 (.t 1)), none, 6, [], [], false⟩,
  ⟨some 10, .op (.load 1 false (.t 9)), none, 7, [], [], false⟩,
  ⟨some 11, .op (.faddr 5 (.t 1)), none, 8, [], [], false⟩,
  ⟨some 12, .op (.load 1 false (.t 11)), none, 9, [], [], false⟩,
  ⟨some 13, .op (.build [(.int .i64 0), (.int .i64 0), (.int .i64 0), (.int .i64 0), (.int .i64 0)] [(0, 1, (.t 4)), (1, 1, (.t 6)), (2, 1, (.t 8)), (3, 1, (.t 10)), (4, 1, (.t 12))]), none, 10, [], [], false⟩,
  ⟨none, .op (.store 5 (.t 2) (.t 13)), none, 11, [], [], false⟩])
  (.ret))⟩
/-! seneschal/wire.Int -/
def l_wire_Int_0 : DCode := .seq (.seqr [
  ⟨some 6, .op (.bin .lss (.t 5) (.c (.int .i64 8))), none, 0, [], [], false⟩])
  (.seq (.cond (.t 6)
  (.skip)
  (.exit 0))
  (.seq (.block 1 (.seq (.seqr [
  ⟨some 7, .op (.mov (.t 5)), none, 0, [], [], false⟩,
  ⟨some 4, .op (.mov (.t 7)), none, 1, [], [], false⟩])
  (.seqr [
  ⟨some 8, .op (.mov (.t 4)), none, 0, [], [], false⟩,
  ⟨some 9, .op (.mov (.t 0)), none, 1, [], [], false⟩,
  ⟨some 10, .op (.mov (.t 4)), none, 2, [], [], false⟩,
  ⟨some 11, .op (.bin .mul (.c (.int .i64 8)) (.t 10)), none, 3, [], [], false⟩,
  ⟨some 12, .op (.bin .sub (.c (.int .i64 56)) (.t 11)), none, 4, [], [], false⟩,
  ⟨some 13, .op (.bin .shr (.t 9) (.t 12)), none, 5, [], [], false⟩,
  ⟨some 14, .op (.conv .u8 (.t 13)), none, 6, [], [], false⟩,
  ⟨some 15, .op (.iaddr (some 8) 1 (.t 3) (.t 8)), none, 7, [], [], false⟩,
  ⟨none, .op (.store 1 (.t 15) (.t 14)), none, 8, [], [], false⟩])))
  (.seqr [
  ⟨some 16, .op (.bin .add (.t 5) (.c (.int .i64 1))), none, 0, [], [], false⟩,
  ⟨some 5, .op (.mov (.t 16)), none, 1, [], [], false⟩])))
def d_wire_Int : DFun := ⟨18, [true], [.tmp 2],
 .seq (.seqr [
  ⟨some 2, .op (.mov (.c .nils)), none, 0, [], [], false⟩])
  (.seq (.seqr [
  ⟨some 3, .op (.alloc (.row (bytesV (List.replicate 8 0)) 1)), none, 0, [], [], false⟩])
  (.seq (.seq (.seqr [
  ⟨some 5, .op (.mov (.c (.int .i64 0))), none, 0, [], [], false⟩])
  (.block 0 (.loop [0, 3, 5] l_wire_Int_0)))
  (.seq (.seqr [
  ⟨some 17, .op (.slcA 8 1 (.t 3) none none), none, 0, [], [], false⟩,
  ⟨some 2, .op (.mov (.t 17)), none, 1, [], [], false⟩])
  (.ret))))⟩
/-! seneschal/wire.Put -/
def l_wire_Put_0 : DCode := .seq (.seqr [
  ⟨some 18, .op (.bin .lss (.t 17) (.t 16)), none, 0, [], [], false⟩])
  (.seq (.cond (.t 18)
  (.skip)
  (.exit 0))
  (.seq (.block 1 (.seq (.seqr [
  ⟨some 19, .op (.iaddr none 2 (.t 15) (.t 17)), none, 0, [], [], false⟩,
  ⟨some 20, .op (.load 2 true (.t 19)), none, 1, [], [], false⟩,
  ⟨some 7, .op (.alloc (.box [(.int .i64 0), .nils])), none, 2, [], [], false⟩,
  ⟨none, .op (.store 2 (.t 7) (.t 20)), none, 3, [], [], false⟩])
  (.seq (.seqr [
  ⟨some 21, .op (.faddr 1 (.t 7)), none, 0, [], [], false⟩,
  ⟨some 22, .op (.load 1 false (.t 21)), none, 1, [], [], false⟩,
  ⟨some 23, .op (.lenL (.t 22)), none, 2, [], [], false⟩,
  ⟨some 8, .op (.mov (.t 23)), none, 3, [], [], false⟩])
  (.seq (.seqr [
  ⟨some 24, .op (.mov (.t 5)), none, 0, [], [], false⟩,
  ⟨some 25, .op (.faddr 0 (.t 7)), none, 1, [], [], false⟩,
  ⟨some 26, .op (.load 1 false (.t 25)), none, 2, [], [], false⟩,
  ⟨some 27, .op (.conv .u8 (.t 26)), none, 3, [], [], false⟩,
  ⟨some 28, .op (.mov (.t 8)), none, 4, [], [], false⟩,
  ⟨some 29, .op (.bin .shr (.t 28) (.c (.int .u64 8))), none, 5, [], [], false⟩,
  ⟨some 30, .op (.conv .u8 (.t 29)), none, 6, [], [], false⟩,
  ⟨some 31, .op (.mov (.t 8)), none, 7, [], [], false⟩,
  ⟨some 32, .op (.conv .u8 (.t 31)), none, 8, [], [], false⟩,
  ⟨some 33, .op (.bsl 1 [(.int .u8 0), (.int .u8 0), (.int .u8 0)] [(0, (.t 27)), (1, (.t 30)), (2, (.t 32))]), none, 9, [], [], false⟩,
  ⟨some 34, .op (.app 1 1 (.t 24) (.t 33)), none, 10, [], [], false⟩,
  ⟨some 5, .op (.mov (.t 34)), none, 11, [], [], false⟩])
  (.seqr [
  ⟨some 35, .op (.mov (.t 5)), none, 0, [], [], false⟩,
  ⟨some 36, .op (.faddr 1 (.t 7)), none, 1, [], [], false⟩,
  ⟨some 37, .op (.load 1 false (.t 36)), none, 2, [], [], false⟩,
  ⟨some 38, .op (.app 1 1 (.t 35) (.t 37)), none, 3, [], [], false⟩,
  ⟨some 5, .op (.mov (.t 38)), none, 4, [], [], false⟩])))))
  (.seqr [
  ⟨some 39, .op (.bin .add (.t 17) (.c (.int .i64 1))), none, 0, [], [], false⟩,
  ⟨some 17, .op (.mov (.t 39)), none, 1, [], [], false⟩])))
def d_wire_Put : DFun := ⟨41, [true], [.tmp 2, .tmp 3],
 .seq (.seqr [
  ⟨some 2, .op (.mov (.c .nils)), none, 0, [], [], false⟩,
  ⟨some 3, .op (.mov (.c (.int .i64 0))), none, 1, [], [], false⟩])
  (.seq (.seq (.seqr [
  ⟨some 9, .op (.mov (.t 0)), none, 0, [], [], false⟩,
  ⟨some 10, .call n_wire_check [(.t 9)], none, 1, [], [], false⟩,
  ⟨some 4, .op (.mov (.t 10)), none, 2, [], [], false⟩])
  (.seq (.seqr [
  ⟨some 11, .op (.mov (.t 4)), none, 0, [], [], false⟩,
  ⟨some 12, .op (.eqv 3 true true [t_api_Errno, t_reflectlite_flag, t_abi_Kind] (.t 11) (.c .nili)), none, 1, [], [], false⟩])
  (.cond (.t 12)
  (.seq (.seqr [
   ⟨some 13, .op (.mov (.t 4)), none, 0, [], [], false⟩,
   ⟨some 14, .call n_wire_number [(.t 13)], none, 1, [], [], false⟩,
   ⟨some 2, .op (.mov (.c .nils)), none, 2, [], [], false⟩,
   ⟨some 3, .op (.mov (.t 14)), none, 3, [], [], false⟩])
   (.ret))
  (.skip))))
  (.seq (.seqr [
  ⟨some 5, .op (.mov (.c .nils)), none, 0, [], [], false⟩])
  (.seq (.seq (.seqr [
  ⟨some 15, .op (.mov (.t 0)), none, 0, [], [], false⟩,
  ⟨some 16, .op (.lenL (.t 15)), none, 1, [], [], false⟩,
  ⟨some 17, .op (.mov (.c (.int .i64 0))), none, 2, [], [], false⟩])
  (.block 0 (.loop [5, 15, 16, 17] l_wire_Put_0)))
  (.seq (.seqr [
  ⟨some 40, .op (.mov (.t 5)), none, 0, [], [], false⟩,
  ⟨some 2, .op (.mov (.t 40)), none, 1, [], [], false⟩,
  ⟨some 3, .op (.mov (.c (.int .i64 0))), none, 2, [], [], false⟩])
  (.ret)))))⟩
/-! seneschal/wire.Read -/
def l_wire_Read_0 : DCode := .seq (.seq (.seqr [
  ⟨some 13, .op (.mov (.t 0)), none, 0, [], [], false⟩,
  ⟨some 14, .op (.lenL (.t 13)), none, 1, [], [], false⟩,
  ⟨some 15, .op (.bin .gtr (.t 14) (.c (.int .i64 0))), none, 2, [], [], false⟩])
  (.cond (.t 15)
  (.skip)
  (.exit 0)))
  (.block 1 (.seq (.seqr [
  ⟨some 16, .op (.mov (.t 0)), none, 0, [], [], false⟩,
  ⟨some 17, .op (.iaddr none 1 (.t 16) (.c (.int .i64 0))), none, 1, [], [], false⟩,
  ⟨some 18, .op (.load 1 false (.t 17)), none, 2, [], [], false⟩,
  ⟨some 19, .op (.conv .i64 (.t 18)), none, 3, [], [], false⟩,
  ⟨some 20, .op (.build [(.int .i64 0), .nils] [(0, 1, (.t 19))]), none, 4, [], [], false⟩,
  ⟨some 6, .op (.alloc (.box [(.int .i64 0), .nils])), none, 5, [], [], false⟩,
  ⟨none, .op (.store 2 (.t 6) (.t 20)), none, 6, [], [], false⟩])
  (.seq (.seq (.seqr [
  ⟨some 21, .op (.faddr 0 (.t 6)), none, 0, [], [], false⟩,
  ⟨some 22, .op (.load 1 false (.t 21)), none, 1, [], [], false⟩,
  ⟨some 23, .op (.mov (.t 5)), none, 2, [], [], false⟩,
  ⟨some 24, .op (.bin .leq (.t 22) (.t 23)), none, 3, [], [], false⟩])
  (.cond (.t 24)
  (.seq (.seqr [
   ⟨some 2, .op (.mov (.c .nils)), none, 0, [], [], false⟩,
   ⟨some 3, .op (.mov (.c (.int .i64 80))), none, 1, [], [], false⟩])
   (.ret))
  (.skip)))
  (.seq (.seqr [
  ⟨some 26, .op (.mov (.t 0)), none, 0, [], [], false⟩,
  ⟨some 27, .op (.slcL 1 (.t 26) (some (.c (.int .i64 1))) none), none, 1, [], [], false⟩,
  ⟨some 28, .op (.mov (.t 4)), none, 2, [], [], false⟩,
  ⟨some 29, .op (.lenL (.t 28)), none, 3, [], [], false⟩,
  ⟨some 30, .call n_wire_cut [(.t 27), (.t 29)], none, 4, [], [], false⟩,
  ⟨some 25, .op (.mov (.t 30)), none, 5, [], [], false⟩,
  ⟨some 31, .op (.ext 0 (.t 25)), none, 6, [], [], false⟩,
  ⟨some 32, .op (.ext 1 (.t 25)), none, 7, [], [], false⟩,
  ⟨some 33, .op (.ext 2 (.t 25)), none, 8, [], [], false⟩,
  ⟨some 7, .op (.mov (.t 31)), none, 9, [], [], false⟩,
  ⟨some 8, .op (.mov (.t 32)), none, 10, [], [], false⟩,
  ⟨some 9, .op (.mov (.t 33)), none, 11, [], [], false⟩])
  (.seq (.seq (.seqr [
  ⟨some 34, .op (.mov (.t 9)), none, 0, [], [], false⟩,
  ⟨some 35, .op (.eqv 3 true true [t_api_Errno, t_reflectlite_flag, t_abi_Kind] (.t 34) (.c .nili)), none, 1, [], [], false⟩])
  (.cond (.t 35)
  (.seq (.seqr [
   ⟨some 36, .op (.mov (.t 9)), none, 0, [], [], false⟩,
   ⟨some 37, .call n_wire_number [(.t 36)], none, 1, [], [], false⟩,
   ⟨some 2, .op (.mov (.c .nils)), none, 2, [], [], false⟩,
   ⟨some 3, .op (.mov (.t 37)), none, 3, [], [], false⟩])
   (.ret))
  (.skip)))
  (.seq (.seqr [
  ⟨some 38, .op (.mov (.t 7)), none, 0, [], [], false⟩,
  ⟨some 39, .op (.mov (.t 8)), none, 1, [], [], false⟩,
  ⟨some 40, .op (.faddr 0 (.t 6)), none, 2, [], [], false⟩,
  ⟨some 41, .op (.load 1 false (.t 40)), none, 3, [], [], false⟩,
  ⟨some 42, .op (.faddr 1 (.t 6)), none, 4, [], [], false⟩,
  ⟨none, .op (.store 1 (.t 42) (.t 38)), none, 5, [], [], false⟩,
  ⟨some 0, .op (.mov (.t 39)), none, 6, [], [], false⟩,
  ⟨some 5, .op (.mov (.t 41)), none, 7, [], [], false⟩])
  (.seqr [
  ⟨some 43, .op (.mov (.t 4)), none, 0, [], [], false⟩,
  ⟨some 44, .op (.load 2 true (.t 6)), none, 1, [], [], false⟩,
  ⟨some 45, .op (.bsl 2 [(.agg [(.int .i64 0), .nils])] [(0, (.t 44))]), none, 2, [], [], false⟩,
  ⟨some 46, .op (.app 2 32 (.t 43) (.t 45)), none, 3, [], [], false⟩,
  ⟨some 4, .op (.mov (.t 46)), none, 4, [], [], false⟩])))))))
def d_wire_Read : DFun := ⟨48, [true], [.tmp 2, .tmp 3],
 .seq (.seqr [
  ⟨some 2, .op (.mov (.c .nils)), none, 0, [], [], false⟩,
  ⟨some 3, .op (.mov (.c (.int .i64 0))), none, 1, [], [], false⟩])
  (.seq (.seq (.seqr [
  ⟨some 10, .op (.mov (.t 0)), none, 0, [], [], false⟩,
  ⟨some 11, .op (.lenL (.t 10)), none, 1, [], [], false⟩,
  ⟨some 12, .op (.bin .gtr (.t 11) (.c (.int .i64 4096))), none, 2, [], [], false⟩])
  (.cond (.t 12)
  (.seq (.seqr [
   ⟨some 2, .op (.mov (.c .nils)), none, 0, [], [], false⟩,
   ⟨some 3, .op (.mov (.c (.int .i64 3))), none, 1, [], [], false⟩])
   (.ret))
  (.skip)))
  (.seq (.seqr [
  ⟨some 4, .op (.mov (.c .nils)), none, 0, [], [], false⟩])
  (.seq (.seqr [
  ⟨some 5, .op (.mov (.c (.int .i64 0))), none, 0, [], [], false⟩])
  (.seq (.block 0 (.loop [0, 4, 5] l_wire_Read_0))
  (.seq (.seqr [
  ⟨some 47, .op (.mov (.t 4)), none, 0, [], [], false⟩,
  ⟨some 2, .op (.mov (.t 47)), none, 1, [], [], false⟩,
  ⟨some 3, .op (.mov (.c (.int .i64 0))), none, 2, [], [], false⟩])
  (.ret))))))⟩
/-! seneschal/wire.ReadInt -/
def l_wire_ReadInt_0 : DCode := .seq (.seqr [
  ⟨some 13, .op (.bin .lss (.t 12) (.t 11)), none, 0, [], [], false⟩])
  (.seq (.cond (.t 13)
  (.skip)
  (.exit 0))
  (.seq (.block 1 (.seq (.seqr [
  ⟨some 14, .op (.iaddr none 1 (.t 10) (.t 12)), none, 0, [], [], false⟩,
  ⟨some 15, .op (.load 1 false (.t 14)), none, 1, [], [], false⟩,
  ⟨some 6, .op (.mov (.t 15)), none, 2, [], [], false⟩])
  (.seqr [
  ⟨some 16, .op (.mov (.t 4)), none, 0, [], [], false⟩,
  ⟨some 17, .op (.bin .shl (.t 16) (.c (.int .u64 8))), none, 1, [], [], false⟩,
  ⟨some 18, .op (.mov (.t 6)), none, 2, [], [], false⟩,
  ⟨some 19, .op (.conv .i64 (.t 18)), none, 3, [], [], false⟩,
  ⟨some 20, .op (.bin .or (.t 17) (.t 19)), none, 4, [], [], false⟩,
  ⟨some 4, .op (.mov (.t 20)), none, 5, [], [], false⟩])))
  (.seqr [
  ⟨some 21, .op (.bin .add (.t 12) (.c (.int .i64 1))), none, 0, [], [], false⟩,
  ⟨some 12, .op (.mov (.t 21)), none, 1, [], [], false⟩])))
def d_wire_ReadInt : DFun := ⟨23, [true], [.tmp 2, .tmp 3],
 .seq (.seqr [
  ⟨some 2, .op (.mov (.c (.int .i64 0))), none, 0, [], [], false⟩,
  ⟨some 3, .op (.mov (.c (.int .i64 0))), none, 1, [], [], false⟩])
  (.seq (.seq (.seqr [
  ⟨some 7, .op (.mov (.t 0)), none, 0, [], [], false⟩,
  ⟨some 8, .op (.lenL (.t 7)), none, 1, [], [], false⟩,
  ⟨some 9, .op (.bin .neq (.t 8) (.c (.int .i64 8))), none, 2, [], [], false⟩])
  (.cond (.t 9)
  (.seq (.seqr [
   ⟨some 2, .op (.mov (.c (.int .i64 0))), none, 0, [], [], false⟩,
   ⟨some 3, .op (.mov (.c (.int .i64 80))), none, 1, [], [], false⟩])
   (.ret))
  (.skip)))
  (.seq (.seqr [
  ⟨some 4, .op (.mov (.c (.int .i64 0))), none, 0, [], [], false⟩])
  (.seq (.seq (.seqr [
  ⟨some 10, .op (.mov (.t 0)), none, 0, [], [], false⟩,
  ⟨some 11, .op (.lenL (.t 10)), none, 1, [], [], false⟩,
  ⟨some 12, .op (.mov (.c (.int .i64 0))), none, 2, [], [], false⟩])
  (.block 0 (.loop [4, 10, 11, 12] l_wire_ReadInt_0)))
  (.seq (.seqr [
  ⟨some 22, .op (.mov (.t 4)), none, 0, [], [], false⟩,
  ⟨some 2, .op (.mov (.t 22)), none, 1, [], [], false⟩,
  ⟨some 3, .op (.mov (.c (.int .i64 0))), none, 2, [], [], false⟩])
  (.ret)))))⟩
/-! seneschal/tgs.times -/
def l_tgs_times_0 : DCode := .seq (.seqr [
  ⟨some 8, .op (.bin .lss (.t 7) (.t 6)), none, 0, [], [], false⟩])
  (.seq (.cond (.t 8)
  (.skip)
  (.exit 0))
  (.seq (.block 1 (.seq (.seqr [
  ⟨some 9, .op (.iaddr none 1 (.t 5) (.t 7)), none, 0, [], [], false⟩,
  ⟨some 10, .op (.load 1 false (.t 9)), none, 1, [], [], false⟩,
  ⟨some 4, .op (.mov (.t 10)), none, 2, [], [], false⟩])
  (.seq (.seqr [
  ⟨some 11, .op (.mov (.t 4)), none, 0, [], [], false⟩,
  ⟨some 12, .op (.bin .lss (.t 11) (.c (.int .i64 0))), none, 1, [], [], false⟩,
  ⟨some 13, .op (.mov (.t 12)), none, 2, [], [], false⟩,
  ⟨some 14, .op (.mov (.t 4)), some (13, false), 3, [], [], false⟩,
  ⟨some 15, .op (.bin .gtr (.t 14) (.c (.int .i64 1099511627776))), some (13, false), 4, [], [], false⟩,
  ⟨some 16, .op (.pick (.t 13) (.c (.bool true)) (.t 15)), none, 5, [], [], false⟩])
  (.cond (.t 16)
  (.seq (.seqr [
   ⟨some 2, .op (.mov (.c (.bool false))), none, 0, [], [], false⟩])
   (.ret))
  (.skip)))))
  (.seqr [
  ⟨some 17, .op (.bin .add (.t 7) (.c (.int .i64 1))), none, 0, [], [], false⟩,
  ⟨some 7, .op (.mov (.t 17)), none, 1, [], [], false⟩])))
def d_tgs_times : DFun := ⟨18, [true], [.tmp 2],
 .seq (.seqr [
  ⟨some 2, .op (.mov (.c (.bool false))), none, 0, [], [], false⟩])
  (.seq (.seq (.seqr [
  ⟨some 5, .op (.mov (.t 0)), none, 0, [], [], false⟩,
  ⟨some 6, .op (.lenL (.t 5)), none, 1, [], [], false⟩,
  ⟨some 7, .op (.mov (.c (.int .i64 0))), none, 2, [], [], false⟩])
  (.block 0 (.loop [5, 6, 7] l_tgs_times_0)))
  (.seq (.seqr [
  ⟨some 2, .op (.mov (.c (.bool true))), none, 0, [], [], false⟩])
  (.ret)))⟩
/-! seneschal/seneschallaw28.granting -/
def d_law28_granting : DFun := ⟨3, [], [.cell 0 7 true],
 .seq (.seqr [
  ⟨some 0, .op (.alloc (.box [(.str []), (.str []), .nils, (.int .i64 0), (.int .i64 0), (.int .i64 0), (.int .i64 0)])), none, 0, [], [], false⟩])
  (.seq (.seqr [
  ⟨some 1, .call n_law28_key [(.c (.str [115, 101, 115, 115, 105, 111, 110]))], none, 0, [], [], false⟩,
  ⟨some 2, .op (.build [(.str []), (.str []), .nils, (.int .i64 0), (.int .i64 0), (.int .i64 0), (.int .i64 0)] [(0, 1, (.c (.str [99]))), (1, 1, (.c (.str [107, 114, 98, 116, 103, 116]))), (3, 1, (.c (.int .i64 0))), (4, 1, (.c (.int .i64 50))), (5, 1, (.c (.int .i64 90))), (6, 1, (.c (.int .i64 12))), (2, 1, (.t 1))]), none, 1, [], [], false⟩,
  ⟨none, .op (.store 7 (.t 0) (.t 2)), none, 2, [], [], false⟩])
  (.ret))⟩
/-! seneschal/who.Make -/
def d_who_Make : DFun := ⟨4, [], [.tmp 0],
 .seq (.seqr [
  ⟨some 0, .op (.mov (.c .nilp)), none, 0, [], [], false⟩])
  (.seq (.seqr [
  ⟨some 1, .op (.mkmap), none, 0, [], [], false⟩,
  ⟨some 2, .op (.build [.nilm, .nils] [(0, 1, (.t 1))]), none, 1, [], [], false⟩,
  ⟨some 3, .op (.box 0 (.t 2)), none, 2, [], [], false⟩,
  ⟨some 0, .op (.mov (.t 3)), none, 3, [], [], false⟩])
  (.ret))⟩
/-! seneschal/seneschalref19.Make -/
def d_ref19_Make : DFun := ⟨3, [], [.tmp 0],
 .seq (.seqr [
  ⟨some 0, .op (.mov (.c .nilp)), none, 0, [], [], false⟩])
  (.seq (.seqr [
  ⟨some 1, .op (.build [.nils] []), none, 0, [], [], false⟩,
  ⟨some 2, .op (.box 0 (.t 1)), none, 1, [], [], false⟩,
  ⟨some 0, .op (.mov (.t 2)), none, 2, [], [], false⟩])
  (.ret))⟩
/-! (*seneschal/who.Book).Add -/
def d_who_Book_Add : DFun := ⟨87, [false, true], [.tmp 4],
 .seq (.seqr [
  ⟨some 3, .op (.box 0 (.t 1)), none, 0, [], [], false⟩,
  ⟨some 4, .op (.mov (.c (.int .i64 0))), none, 1, [], [], false⟩])
  (.seq (.seq (.seqr [
  ⟨some 7, .op (.mov (.t 0)), none, 0, [], [], false⟩,
  ⟨some 8, .call n_who_Book_is [(.t 7)], none, 1, [], [], false⟩,
  ⟨some 9, .op (.un .not (.t 8)), none, 2, [], [], false⟩])
  (.cond (.t 9)
  (.seq (.seqr [
   ⟨some 4, .op (.mov (.c (.int .i64 1))), none, 0, [], [], false⟩])
   (.ret))
  (.skip)))
  (.seq (.drwr [
  ⟨some 11, .op (.mov (.t 0)), none, 0, [], [], false⟩,
  ⟨some 12, .op (.nilchk (.t 11)), none, 1, [], [], false⟩,
  ⟨some 13, .op (.faddr 0 (.t 12)), none, 2, [], [], false⟩,
  ⟨some 14, .op (.load 1 false (.t 13)), none, 3, [], [], false⟩,
  ⟨some 15, .op (.faddr 0 (.t 3)), none, 4, [], [], false⟩,
  ⟨some 16, .op (.load 1 false (.t 15)), none, 5, [], [], false⟩,
  ⟨some 17, .op (.look 2 (.agg [(.str []), .nils, (.int .i64 0), (.int .i64 0), (.int .i64 0)]) true (.t 14) (.t 16)), none, 6, [], [], false⟩,
  ⟨some 10, .op (.mov (.t 17)), none, 7, [], [], false⟩,
  ⟨some 18, .op (.ext 0 (.t 10)), none, 8, [], [], false⟩,
  ⟨some 19, .op (.ext 1 (.t 10)), none, 9, [], [], false⟩,
  ⟨some 5, .op (.alloc (.box [(.str []), .nils, (.int .i64 0), (.int .i64 0), (.int .i64 0)])), none, 10, [], [], false⟩,
  ⟨none, .op (.store 5 (.t 5) (.t 18)), none, 11, [10], [], false⟩,
  ⟨some 6, .op (.mov (.t 19)), none, 12, [], [], false⟩])
  (.seq (.block 0 (.seq (.seqr [
  ⟨some 21, .op (.faddr 0 (.t 3)), none, 0, [], [], false⟩,
  ⟨some 22, .op (.load 1 false (.t 21)), none, 1, [], [], false⟩,
  ⟨some 23, .call n_who_named [(.t 22)], none, 2, [], [], false⟩,
  ⟨some 24, .op (.un .not (.t 23)), none, 3, [], [], false⟩,
  ⟨some 25, .op (.mov (.t 24)), none, 4, [], [], false⟩,
  ⟨some 26, .op (.faddr 1 (.t 3)), some (25, false), 5, [], [], false⟩,
  ⟨some 27, .op (.load 1 false (.t 26)), some (25, false), 6, [], [], false⟩,
  ⟨some 28, .op (.lenL (.t 27)), some (25, false), 7, [], [], false⟩,
  ⟨some 29, .op (.bin .neq (.t 28) (.c (.int .i64 16))), some (25, false), 8, [], [], false⟩,
  ⟨some 30, .op (.pick (.t 25) (.c (.bool true)) (.t 29)), none, 9, [], [], false⟩,
  ⟨some 20, .op (.mov (.t 30)), none, 10, [], [], false⟩])
  (.cond (.t 20)
  (.seq (.seqr [
   ⟨some 4, .op (.mov (.c (.int .i64 2))), none, 0, [], [], false⟩])
   (.ret))
  (.seq (.seqr [
   ⟨some 32, .op (.faddr 2 (.t 3)), none, 0, [], [], false⟩,
   ⟨some 33, .op (.load 1 false (.t 32)), none, 1, [], [], false⟩,
   ⟨some 34, .op (.bin .lss (.t 33) (.c (.int .i64 0))), none, 2, [], [], false⟩,
   ⟨some 35, .op (.mov (.t 34)), none, 3, [], [], false⟩,
   ⟨some 36, .op (.faddr 2 (.t 3)), some (35, false), 4, [], [], false⟩,
   ⟨some 37, .op (.load 1 false (.t 36)), some (35, false), 5, [], [], false⟩,
   ⟨some 38, .op (.bin .gtr (.t 37) (.c (.int .i64 15))), some (35, false), 6, [], [], false⟩,
   ⟨some 39, .op (.pick (.t 35) (.c (.bool true)) (.t 38)), none, 7, [], [], false⟩,
   ⟨some 40, .op (.mov (.t 39)), none, 8, [], [], false⟩,
   ⟨some 41, .op (.faddr 3 (.t 3)), some (40, false), 9, [], [], false⟩,
   ⟨some 42, .op (.load 1 false (.t 41)), some (40, false), 10, [], [], false⟩,
   ⟨some 43, .op (.bin .eql (.t 42) (.c (.int .i64 0))), some (40, false), 11, [], [], false⟩,
   ⟨some 44, .op (.pick (.t 40) (.c (.bool true)) (.t 43)), none, 12, [], [], false⟩,
   ⟨some 45, .op (.mov (.t 44)), none, 13, [], [], false⟩,
   ⟨some 46, .op (.faddr 4 (.t 3)), some (45, false), 14, [], [], false⟩,
   ⟨some 47, .op (.load 1 false (.t 46)), some (45, false), 15, [], [], false⟩,
   ⟨some 48, .op (.bin .eql (.t 47) (.c (.int .i64 0))), some (45, false), 16, [], [], false⟩,
   ⟨some 49, .op (.pick (.t 45) (.c (.bool true)) (.t 48)), none, 17, [], [], false⟩,
   ⟨some 50, .op (.mov (.t 49)), none, 18, [], [], false⟩,
   ⟨some 51, .op (.faddr 3 (.t 3)), some (50, false), 19, [], [], false⟩,
   ⟨some 52, .op (.load 1 false (.t 51)), some (50, false), 20, [], [], false⟩,
   ⟨some 53, .op (.faddr 4 (.t 3)), some (50, false), 21, [], [], false⟩,
   ⟨some 54, .op (.load 1 false (.t 53)), some (50, false), 22, [], [], false⟩,
   ⟨some 55, .op (.bsl 1 [(.int .i64 0), (.int .i64 0)] [(0, (.t 52)), (1, (.t 54))]), some (50, false), 23, [], [], false⟩,
   ⟨some 56, .call n_who_times [(.t 55)], some (50, false), 24, [], [], false⟩,
   ⟨some 57, .op (.un .not (.t 56)), some (50, false), 25, [], [], false⟩,
   ⟨some 58, .op (.pick (.t 50) (.c (.bool true)) (.t 57)), none, 26, [], [], false⟩,
   ⟨some 31, .op (.mov (.t 58)), none, 27, [], [], false⟩])
   (.cond (.t 31)
   (.seq (.seqr [
    ⟨some 4, .op (.mov (.c (.int .i64 2))), none, 0, [], [], false⟩])
    (.ret))
   (.seq (.seqr [
    ⟨some 60, .op (.mov (.t 6)), none, 0, [], [], false⟩,
    ⟨some 59, .op (.mov (.t 60)), none, 1, [], [], false⟩])
    (.cond (.t 59)
    (.seq (.seqr [
     ⟨some 4, .op (.mov (.c (.int .i64 6))), none, 0, [], [], false⟩])
     (.ret))
    (.seq (.seqr [
     ⟨some 62, .op (.mov (.t 0)), none, 0, [], [], false⟩,
     ⟨some 63, .op (.nilchk (.t 62)), none, 1, [], [], false⟩,
     ⟨some 64, .op (.faddr 1 (.t 63)), none, 2, [], [], false⟩,
     ⟨some 65, .op (.load 1 false (.t 64)), none, 3, [], [], false⟩,
     ⟨some 66, .op (.lenL (.t 65)), none, 4, [], [], false⟩,
     ⟨some 67, .op (.bin .eql (.t 66) (.c (.int .i64 256))), none, 5, [], [], false⟩,
     ⟨some 61, .op (.mov (.t 67)), none, 6, [], [], false⟩])
     (.cond (.t 61)
     (.seq (.seqr [
      ⟨some 4, .op (.mov (.c (.int .i64 4))), none, 0, [], [], false⟩])
      (.ret))
     (.skip))))))))))
  (.seq (.drwr [
  ⟨some 68, .op (.mov (.t 0)), none, 0, [], [], false⟩,
  ⟨some 69, .op (.nilchk (.t 68)), none, 1, [], [], false⟩,
  ⟨some 70, .op (.faddr 0 (.t 69)), none, 2, [], [], false⟩,
  ⟨some 72, .op (.faddr 0 (.t 3)), none, 4, [], [], false⟩,
  ⟨some 74, .op (.load 5 true (.t 3)), none, 6, [], [], false⟩,
  ⟨some 75, .call n_who_Person_own [(.t 74)], none, 7, [], [], false⟩,
  ⟨some 71, .op (.load 1 false (.t 70)), none, 3, [], [5], false⟩,
  ⟨some 73, .op (.load 1 false (.t 72)), none, 5, [], [5], false⟩,
  ⟨none, .op (.mset 2 5 (.t 71) (.t 73) (.t 75)), none, 8, [5], [], false⟩])
  (.seq (.drwr [
  ⟨some 76, .op (.mov (.t 0)), none, 0, [], [], false⟩,
  ⟨some 77, .op (.mov (.t 0)), none, 1, [], [], false⟩,
  ⟨some 78, .op (.nilchk (.t 77)), none, 2, [], [], false⟩,
  ⟨some 79, .op (.faddr 1 (.t 78)), none, 3, [], [], false⟩,
  ⟨some 81, .op (.faddr 0 (.t 3)), none, 5, [], [], false⟩,
  ⟨some 82, .op (.load 1 false (.t 81)), none, 6, [], [], false⟩,
  ⟨some 83, .op (.bsl 1 [(.str [])] [(0, (.t 82))]), none, 7, [], [], false⟩,
  ⟨some 80, .op (.load 1 false (.t 79)), none, 4, [], [6], false⟩,
  ⟨some 84, .op (.app 1 16 (.t 80) (.t 83)), none, 8, [6], [], false⟩,
  ⟨some 85, .op (.nilchk (.t 76)), none, 9, [], [], false⟩,
  ⟨some 86, .op (.faddr 1 (.t 85)), none, 10, [], [], false⟩,
  ⟨none, .op (.store 1 (.t 86) (.t 84)), none, 11, [6, 8], [], false⟩])
  (.seq (.seqr [
  ⟨some 4, .op (.mov (.c (.int .i64 0))), none, 0, [], [], false⟩])
  (.ret)))))))⟩
/-! (*seneschal/seneschalref19.Book).Add -/
def d_ref19_Book_Add : DFun := ⟨78, [false, true], [.tmp 4],
 .seq (.seqr [
  ⟨some 3, .op (.box 0 (.t 1)), none, 0, [], [], false⟩,
  ⟨some 4, .op (.mov (.c (.int .i64 0))), none, 1, [], [], false⟩])
  (.seq (.seq (.seqr [
  ⟨some 7, .op (.faddr 0 (.t 3)), none, 0, [], [], false⟩,
  ⟨some 8, .op (.load 1 false (.t 7)), none, 1, [], [], false⟩,
  ⟨some 9, .call n_ref19_Name [(.t 8)], none, 2, [], [], false⟩,
  ⟨some 10, .op (.un .not (.t 9)), none, 3, [], [], false⟩,
  ⟨some 11, .op (.mov (.t 10)), none, 4, [], [], false⟩,
  ⟨some 12, .op (.faddr 1 (.t 3)), some (11, false), 5, [], [], false⟩,
  ⟨some 13, .op (.load 1 false (.t 12)), some (11, false), 6, [], [], false⟩,
  ⟨some 14, .op (.lenL (.t 13)), some (11, false), 7, [], [], false⟩,
  ⟨some 15, .op (.bin .neq (.t 14) (.c (.int .i64 16))), some (11, false), 8, [], [], false⟩,
  ⟨some 16, .op (.pick (.t 11) (.c (.bool true)) (.t 15)), none, 9, [], [], false⟩,
  ⟨some 17, .op (.mov (.t 16)), none, 10, [], [], false⟩,
  ⟨some 18, .op (.faddr 2 (.t 3)), some (17, false), 11, [], [], false⟩,
  ⟨some 19, .op (.load 1 false (.t 18)), some (17, false), 12, [], [], false⟩,
  ⟨some 20, .op (.bin .lss (.t 19) (.c (.int .i64 0))), some (17, false), 13, [], [], false⟩,
  ⟨some 21, .op (.pick (.t 17) (.c (.bool true)) (.t 20)), none, 14, [], [], false⟩,
  ⟨some 22, .op (.mov (.t 21)), none, 15, [], [], false⟩,
  ⟨some 23, .op (.faddr 2 (.t 3)), some (22, false), 16, [], [], false⟩,
  ⟨some 24, .op (.load 1 false (.t 23)), some (22, false), 17, [], [], false⟩,
  ⟨some 25, .op (.bin .gtr (.t 24) (.c (.int .i64 15))), some (22, false), 18, [], [], false⟩,
  ⟨some 26, .op (.pick (.t 22) (.c (.bool true)) (.t 25)), none, 19, [], [], false⟩,
  ⟨some 27, .op (.mov (.t 26)), none, 20, [], [], false⟩,
  ⟨some 28, .op (.faddr 3 (.t 3)), some (27, false), 21, [], [], false⟩,
  ⟨some 29, .op (.load 1 false (.t 28)), some (27, false), 22, [], [], false⟩,
  ⟨some 30, .op (.bin .lss (.t 29) (.c (.int .i64 1))), some (27, false), 23, [], [], false⟩,
  ⟨some 31, .op (.pick (.t 27) (.c (.bool true)) (.t 30)), none, 24, [], [], false⟩,
  ⟨some 32, .op (.mov (.t 31)), none, 25, [], [], false⟩,
  ⟨some 33, .op (.faddr 3 (.t 3)), some (32, false), 26, [], [], false⟩,
  ⟨some 34, .op (.load 1 false (.t 33)), some (32, false), 27, [], [], false⟩,
  ⟨some 35, .call n_ref19_time [(.t 34)], some (32, false), 28, [], [], false⟩,
  ⟨some 36, .op (.un .not (.t 35)), some (32, false), 29, [], [], false⟩,
  ⟨some 37, .op (.pick (.t 32) (.c (.bool true)) (.t 36)), none, 30, [], [], false⟩,
  ⟨some 38, .op (.mov (.t 37)), none, 31, [], [], false⟩,
  ⟨some 39, .op (.faddr 4 (.t 3)), some (38, false), 32, [], [], false⟩,
  ⟨some 40, .op (.load 1 false (.t 39)), some (38, false), 33, [], [], false⟩,
  ⟨some 41, .op (.bin .lss (.t 40) (.c (.int .i64 1))), some (38, false), 34, [], [], false⟩,
  ⟨some 42, .op (.pick (.t 38) (.c (.bool true)) (.t 41)), none, 35, [], [], false⟩,
  ⟨some 43, .op (.mov (.t 42)), none, 36, [], [], false⟩,
  ⟨some 44, .op (.faddr 4 (.t 3)), some (43, false), 37, [], [], false⟩,
  ⟨some 45, .op (.load 1 false (.t 44)), some (43, false), 38, [], [], false⟩,
  ⟨some 46, .call n_ref19_time [(.t 45)], some (43, false), 39, [], [], false⟩,
  ⟨some 47, .op (.un .not (.t 46)), some (43, false), 40, [], [], false⟩,
  ⟨some 48, .op (.pick (.t 43) (.c (.bool true)) (.t 47)), none, 41, [], [], false⟩])
  (.cond (.t 48)
  (.seq (.seqr [
   ⟨some 4, .op (.mov (.c (.int .i64 2))), none, 0, [], [], false⟩])
   (.ret))
  (.skip)))
  (.seq (.seq (.seqr [
  ⟨some 50, .op (.mov (.t 0)), none, 0, [], [], false⟩,
  ⟨some 51, .op (.faddr 0 (.t 3)), none, 1, [], [], false⟩,
  ⟨some 52, .op (.load 1 false (.t 51)), none, 2, [], [], false⟩,
  ⟨some 53, .call n_ref19_Book_Find [(.t 50), (.t 52)], none, 3, [], [], false⟩,
  ⟨some 49, .op (.mov (.t 53)), none, 4, [], [], false⟩,
  ⟨some 54, .op (.ext 0 (.t 49)), none, 5, [], [], false⟩,
  ⟨some 55, .op (.ext 1 (.t 49)), none, 6, [], [], false⟩,
  ⟨some 5, .op (.alloc (.box [(.str []), .nils, (.int .i64 0), (.int .i64 0), (.int .i64 0)])), none, 7, [], [], false⟩,
  ⟨none, .op (.store 5 (.t 5) (.t 54)), none, 8, [], [], false⟩,
  ⟨some 6, .op (.mov (.t 55)), none, 9, [], [], false⟩])
  (.seq (.seqr [
  ⟨some 56, .op (.mov (.t 6)), none, 0, [], [], false⟩,
  ⟨some 57, .op (.bin .eql (.t 56) (.c (.int .i64 0))), none, 1, [], [], false⟩])
  (.cond (.t 57)
  (.seq (.seqr [
   ⟨some 4, .op (.mov (.c (.int .i64 6))), none, 0, [], [], false⟩])
   (.ret))
  (.skip))))
  (.seq (.seq (.seqr [
  ⟨some 58, .op (.mov (.t 0)), none, 0, [], [], false⟩,
  ⟨some 59, .op (.nilchk (.t 58)), none, 1, [], [], false⟩,
  ⟨some 60, .op (.faddr 0 (.t 59)), none, 2, [], [], false⟩,
  ⟨some 61, .op (.load 1 false (.t 60)), none, 3, [], [], false⟩,
  ⟨some 62, .op (.lenL (.t 61)), none, 4, [], [], false⟩,
  ⟨some 63, .op (.bin .geq (.t 62) (.c (.int .i64 256))), none, 5, [], [], false⟩])
  (.cond (.t 63)
  (.seq (.seqr [
   ⟨some 4, .op (.mov (.c (.int .i64 4))), none, 0, [], [], false⟩])
   (.ret))
  (.skip)))
  (.seq (.seqr [
  ⟨some 64, .op (.faddr 1 (.t 3)), none, 0, [], [], false⟩,
  ⟨some 65, .op (.load 1 false (.t 64)), none, 1, [], [], false⟩,
  ⟨some 66, .call n_base_Bytes [(.t 65)], none, 2, [], [], false⟩,
  ⟨some 67, .op (.faddr 1 (.t 3)), none, 3, [], [], false⟩,
  ⟨none, .op (.store 1 (.t 67) (.t 66)), none, 4, [], [], false⟩])
  (.seq (.drwr [
  ⟨some 68, .op (.mov (.t 0)), none, 0, [], [], false⟩,
  ⟨some 69, .op (.mov (.t 0)), none, 1, [], [], false⟩,
  ⟨some 70, .op (.nilchk (.t 69)), none, 2, [], [], false⟩,
  ⟨some 71, .op (.faddr 0 (.t 70)), none, 3, [], [], false⟩,
  ⟨some 73, .op (.load 5 true (.t 3)), none, 5, [], [], false⟩,
  ⟨some 74, .op (.bsl 5 [(.agg [(.str []), .nils, (.int .i64 0), (.int .i64 0), (.int .i64 0)])] [(0, (.t 73))]), none, 6, [], [], false⟩,
  ⟨some 72, .op (.load 1 false (.t 71)), none, 4, [], [5], false⟩,
  ⟨some 75, .op (.app 5 64 (.t 72) (.t 74)), none, 7, [5], [], false⟩,
  ⟨some 76, .op (.nilchk (.t 68)), none, 8, [], [], false⟩,
  ⟨some 77, .op (.faddr 0 (.t 76)), none, 9, [], [], false⟩,
  ⟨none, .op (.store 1 (.t 77) (.t 75)), none, 10, [5, 7], [], false⟩])
  (.seq (.seqr [
  ⟨some 4, .op (.mov (.c (.int .i64 0))), none, 0, [], [], false⟩])
  (.ret)))))))⟩
/-! (*seneschal/who.Book).Find -/
def d_who_Book_Find : DFun := ⟨26, [false, true], [.cell 4 5 true, .tmp 5],
 .seq (.seqr [
  ⟨some 4, .op (.alloc (.box [(.str []), .nils, (.int .i64 0), (.int .i64 0), (.int .i64 0)])), none, 0, [], [], false⟩,
  ⟨some 5, .op (.mov (.c (.int .i64 0))), none, 1, [], [], false⟩])
  (.seq (.seq (.seqr [
  ⟨some 8, .op (.mov (.t 0)), none, 0, [], [], false⟩,
  ⟨some 9, .call n_who_Book_is [(.t 8)], none, 1, [], [], false⟩,
  ⟨some 10, .op (.un .not (.t 9)), none, 2, [], [], false⟩])
  (.cond (.t 10)
  (.seq (.seqr [
   ⟨some 11, .op (.build [(.str []), .nils, (.int .i64 0), (.int .i64 0), (.int .i64 0)] []), none, 0, [], [], false⟩,
   ⟨none, .op (.store 5 (.t 4) (.t 11)), none, 1, [], [], false⟩,
   ⟨some 5, .op (.mov (.c (.int .i64 1))), none, 2, [], [], false⟩])
   (.ret))
  (.skip)))
  (.seq (.seqr [
  ⟨some 13, .op (.mov (.t 0)), none, 0, [], [], false⟩,
  ⟨some 14, .op (.nilchk (.t 13)), none, 1, [], [], false⟩,
  ⟨some 15, .op (.faddr 0 (.t 14)), none, 2, [], [], false⟩,
  ⟨some 16, .op (.load 1 false (.t 15)), none, 3, [], [], false⟩,
  ⟨some 17, .op (.mov (.t 1)), none, 4, [], [], false⟩,
  ⟨some 18, .op (.look 2 (.agg [(.str []), .nils, (.int .i64 0), (.int .i64 0), (.int .i64 0)]) true (.t 16) (.t 17)), none, 5, [], [], false⟩,
  ⟨some 12, .op (.mov (.t 18)), none, 6, [], [], false⟩,
  ⟨some 19, .op (.ext 0 (.t 12)), none, 7, [], [], false⟩,
  ⟨some 20, .op (.ext 1 (.t 12)), none, 8, [], [], false⟩,
  ⟨some 6, .op (.alloc (.box [(.str []), .nils, (.int .i64 0), (.int .i64 0), (.int .i64 0)])), none, 9, [], [], false⟩,
  ⟨none, .op (.store 5 (.t 6) (.t 19)), none, 10, [], [], false⟩,
  ⟨some 7, .op (.mov (.t 20)), none, 11, [], [], false⟩])
  (.seq (.seq (.seqr [
  ⟨some 21, .op (.mov (.t 7)), none, 0, [], [], false⟩,
  ⟨some 22, .op (.un .not (.t 21)), none, 1, [], [], false⟩])
  (.cond (.t 22)
  (.seq (.seqr [
   ⟨some 23, .op (.build [(.str []), .nils, (.int .i64 0), (.int .i64 0), (.int .i64 0)] []), none, 0, [], [], false⟩,
   ⟨none, .op (.store 5 (.t 4) (.t 23)), none, 1, [], [], false⟩,
   ⟨some 5, .op (.mov (.c (.int .i64 5))), none, 2, [], [], false⟩])
   (.ret))
  (.skip)))
  (.seq (.seqr [
  ⟨some 24, .op (.load 5 true (.t 6)), none, 0, [], [], false⟩,
  ⟨some 25, .call n_who_Person_own [(.t 24)], none, 1, [], [], false⟩,
  ⟨none, .op (.store 5 (.t 4) (.t 25)), none, 2, [], [], false⟩,
  ⟨some 5, .op (.mov (.c (.int .i64 0))), none, 3, [], [], false⟩])
  (.ret)))))⟩
/-! seneschal/cache.MakeReplay -/
def d_cache_MakeReplay : DFun := ⟨20, [true, true], [.tmp 4, .tmp 5],
 .seq (.seqr [
  ⟨some 4, .op (.mov (.c .nilp)), none, 0, [], [], false⟩,
  ⟨some 5, .op (.mov (.c (.int .i64 0))), none, 1, [], [], false⟩])
  (.seq (.seq (.seqr [
  ⟨some 6, .op (.mov (.t 0)), none, 0, [], [], false⟩,
  ⟨some 7, .call n_cache_right [(.t 6)], none, 1, [], [], false⟩,
  ⟨some 8, .op (.un .not (.t 7)), none, 2, [], [], false⟩,
  ⟨some 9, .op (.mov (.t 8)), none, 3, [], [], false⟩,
  ⟨some 10, .op (.mov (.t 1)), some (9, false), 4, [], [], false⟩,
  ⟨some 11, .op (.bsl 1 [(.int .i64 0)] [(0, (.t 10))]), some (9, false), 5, [], [], false⟩,
  ⟨some 12, .call n_cache_times [(.t 11)], some (9, false), 6, [], [], false⟩,
  ⟨some 13, .op (.un .not (.t 12)), some (9, false), 7, [], [], false⟩,
  ⟨some 14, .op (.pick (.t 9) (.c (.bool true)) (.t 13)), none, 8, [], [], false⟩])
  (.cond (.t 14)
  (.seq (.seqr [
   ⟨some 4, .op (.mov (.c .nilp)), none, 0, [], [], false⟩,
   ⟨some 5, .op (.mov (.c (.int .i64 2))), none, 1, [], [], false⟩])
   (.ret))
  (.skip)))
  (.seq (.seqr [
  ⟨some 15, .op (.mov (.t 0)), none, 0, [], [], false⟩,
  ⟨some 16, .op (.mov (.t 1)), none, 1, [], [], false⟩,
  ⟨some 17, .op (.mkmap), none, 2, [], [], false⟩,
  ⟨some 18, .op (.build [(.int .i64 0), (.int .i64 0), .nilm] [(0, 1, (.t 15)), (1, 1, (.t 16)), (2, 1, (.t 17))]), none, 3, [], [], false⟩,
  ⟨some 19, .op (.box 0 (.t 18)), none, 4, [], [], false⟩,
  ⟨some 4, .op (.mov (.t 19)), none, 5, [], [], false⟩,
  ⟨some 5, .op (.mov (.c (.int .i64 0))), none, 6, [], [], false⟩])
  (.ret)))⟩
/-! seneschal/tgs.opened -/
def d_tgs_opened : DFun := ⟨63, [true, true], [.cell 4 16 true, .tmp 5],
 .seq (.seqr [
  ⟨some 4, .op (.alloc (.box [(.str []), (.str []), .nils, (.int .i64 0), (.int .i64 0), (.int .i64 0), (.int .i64 0), (.str []), (.int .i64 0), (.int .i64 0), (.int .i64 0), (.str []), (.int .i64 0), (.int .i64 0), (.int .i64 0), (.int .i64 0)])), none, 0, [], [], false⟩,
  ⟨some 5, .op (.mov (.c .nili)), none, 1, [], [], false⟩])
  (.seq (.seqr [
  ⟨some 15, .op (.mov (.t 0)), none, 0, [], [], false⟩,
  ⟨some 16, .call n_tgs_Asked [(.t 15)], none, 1, [], [], false⟩,
  ⟨some 14, .op (.mov (.t 16)), none, 2, [], [], false⟩,
  ⟨some 17, .op (.ext 0 (.t 14)), none, 3, [], [], false⟩,
  ⟨some 18, .op (.ext 1 (.t 14)), none, 4, [], [], false⟩,
  ⟨some 19, .op (.ext 2 (.t 14)), none, 5, [], [], false⟩,
  ⟨some 20, .op (.ext 3 (.t 14)), none, 6, [], [], false⟩,
  ⟨some 8, .op (.alloc (.box [(.int .i64 0), (.str []), (.int .i64 0), (.int .i64 0), (.int .i64 0), (.int .i64 0)])), none, 7, [], [], false⟩,
  ⟨some 6, .op (.mov (.t 17)), none, 8, [], [], false⟩,
  ⟨some 7, .op (.mov (.t 18)), none, 9, [], [], false⟩,
  ⟨none, .op (.store 6 (.t 8) (.t 19)), none, 10, [], [], false⟩,
  ⟨some 9, .op (.mov (.t 20)), none, 11, [], [], false⟩])
  (.seq (.seq (.seqr [
  ⟨some 21, .op (.mov (.t 9)), none, 0, [], [], false⟩,
  ⟨some 22, .op (.bin .neq (.t 21) (.c (.int .i64 0))), none, 1, [], [], false⟩])
  (.cond (.t 22)
  (.seq (.seqr [
   ⟨some 23, .op (.build [(.str []), (.str []), .nils, (.int .i64 0), (.int .i64 0), (.int .i64 0), (.int .i64 0), (.str []), (.int .i64 0), (.int .i64 0), (.int .i64 0), (.str []), (.int .i64 0), (.int .i64 0), (.int .i64 0), (.int .i64 0)] []), none, 0, [], [], false⟩,
   ⟨some 24, .op (.mov (.t 9)), none, 1, [], [], false⟩,
   ⟨some 25, .op (.mki t_api_Errno (.t 24)), none, 2, [], [], false⟩,
   ⟨none, .op (.store 16 (.t 4) (.t 23)), none, 3, [], [], false⟩,
   ⟨some 5, .op (.mov (.t 25)), none, 4, [], [], false⟩])
   (.ret))
  (.skip)))
  (.seq (.seqr [
  ⟨some 27, .op (.mov (.t 6)), none, 0, [], [], false⟩,
  ⟨some 28, .call n_ticket_Read [(.t 27)], none, 1, [], [], false⟩,
  ⟨some 26, .op (.mov (.t 28)), none, 2, [], [], false⟩,
  ⟨some 29, .op (.ext 0 (.t 26)), none, 3, [], [], false⟩,
  ⟨some 30, .op (.ext 1 (.t 26)), none, 4, [], [], false⟩,
  ⟨some 10, .op (.alloc (.box [(.str []), (.str []), .nils, (.int .i64 0), (.int .i64 0), (.int .i64 0), (.int .i64 0)])), none, 5, [], [], false⟩,
  ⟨none, .op (.store 7 (.t 10) (.t 29)), none, 6, [], [], false⟩,
  ⟨some 9, .op (.mov (.t 30)), none, 7, [], [], false⟩])
  (.seq (.seqr [
  ⟨some 32, .op (.mov (.t 1)), none, 0, [], [], false⟩,
  ⟨some 33, .op (.mov (.t 7)), none, 1, [], [], false⟩,
  ⟨some 34, .call n_ticket_Open [(.t 32), (.t 33)], none, 2, [], [], false⟩,
  ⟨some 31, .op (.mov (.t 34)), none, 3, [], [], false⟩,
  ⟨some 35, .op (.ext 0 (.t 31)), none, 4, [], [], false⟩,
  ⟨some 36, .op (.ext 1 (.t 31)), none, 5, [], [], false⟩,
  ⟨some 11, .op (.alloc (.box [(.str []), (.int .i64 0), (.int .i64 0)])), none, 6, [], [], false⟩,
  ⟨none, .op (.store 3 (.t 11) (.t 35)), none, 7, [], [], false⟩,
  ⟨some 12, .op (.mov (.t 36)), none, 8, [], [], false⟩])
  (.seq (.seqr [
  ⟨some 13, .op (.mov (.c .nili)), none, 0, [], [], false⟩])
  (.seq (.block 0 (.seq (.block 2 (.block 1 (.seq (.seq (.seq (.seq (.seqr [
  ⟨some 38, .op (.mov (.t 9)), none, 0, [], [], false⟩,
  ⟨some 39, .op (.bin .neq (.t 38) (.c (.int .i64 0))), none, 1, [], [], false⟩,
  ⟨some 37, .op (.mov (.t 39)), none, 2, [], [], false⟩])
  (.cond (.t 37)
  (.skip)
  (.seqr [
   ⟨some 40, .op (.mov (.t 12)), none, 0, [], [], false⟩,
   ⟨some 41, .op (.bin .neq (.t 40) (.c (.int .i64 0))), none, 1, [], [], false⟩,
   ⟨some 37, .op (.mov (.t 41)), none, 2, [], [], false⟩])))
  (.cond (.t 37)
  (.exit 1)
  (.skip)))
  (.seq (.seqr [
  ⟨some 43, .op (.faddr 0 (.t 8)), none, 0, [], [], false⟩,
  ⟨some 44, .op (.load 1 false (.t 43)), none, 1, [], [], false⟩,
  ⟨some 45, .op (.bin .neq (.t 44) (.c (.int .i64 0))), none, 2, [], [], false⟩,
  ⟨some 46, .op (.mov (.t 45)), none, 3, [], [], false⟩,
  ⟨some 47, .op (.load 6 true (.t 8)), some (46, true), 4, [], [], false⟩,
  ⟨some 48, .op (.build [(.int .i64 0), (.str []), (.int .i64 0), (.int .i64 0), (.int .i64 0), (.int .i64 0)] [(0, 1, (.c (.int .i64 1)))]), some (46, true), 5, [], [], false⟩,
  ⟨some 49, .op (.eqa [1, 2, 1, 1, 1, 1] true (.t 47) (.t 48)), some (46, true), 6, [], [], false⟩,
  ⟨some 50, .op (.pick (.t 46) (.t 49) (.c (.bool false))), none, 7, [], [], false⟩,
  ⟨some 42, .op (.mov (.t 50)), none, 8, [], [], false⟩])
  (.cond (.t 42)
  (.exit 2)
  (.skip))))
  (.exit 0))))
  (.seq (.seqr [
  ⟨some 51, .op (.mki t_api_Errno (.c (.int .i64 200))), none, 0, [], [], false⟩,
  ⟨some 52, .op (.mov (.t 9)), none, 1, [], [], false⟩,
  ⟨some 53, .op (.mki t_api_Errno (.t 52)), none, 2, [], [], false⟩,
  ⟨some 54, .op (.mov (.t 12)), none, 3, [], [], false⟩,
  ⟨some 55, .op (.mki t_api_Errno (.t 54)), none, 4, [], [], false⟩,
  ⟨some 56, .op (.bsl 1 [.nili, .nili, .nili] [(0, (.t 51)), (1, (.t 53)), (2, (.t 55))]), none, 5, [], [], false⟩,
  ⟨some 57, .call n_errors_Join [(.t 56)], none, 6, [], [], false⟩,
  ⟨some 13, .op (.mov (.t 57)), none, 7, [], [], false⟩])
  (.exit 0))))
  (.seq (.seqr [
  ⟨some 58, .op (.load 7 true (.t 10)), none, 0, [], [], false⟩,
  ⟨some 59, .op (.load 3 true (.t 11)), none, 1, [], [], false⟩,
  ⟨some 60, .op (.load 6 true (.t 8)), none, 2, [], [], false⟩,
  ⟨some 61, .op (.build [(.str []), (.str []), .nils, (.int .i64 0), (.int .i64 0), (.int .i64 0), (.int .i64 0), (.str []), (.int .i64 0), (.int .i64 0), (.int .i64 0), (.str []), (.int .i64 0), (.int .i64 0), (.int .i64 0), (.int .i64 0)] [(0, 7, (.t 58)), (7, 3, (.t 59)), (10, 6, (.t 60))]), none, 3, [], [], false⟩,
  ⟨some 62, .op (.mov (.t 13)), none, 4, [], [], false⟩,
  ⟨none, .op (.store 16 (.t 4) (.t 61)), none, 5, [], [], false⟩,
  ⟨some 5, .op (.mov (.t 62)), none, 6, [], [], false⟩])
  (.ret))))))))⟩
/-! errors.Is -/
def d_errors_Is : DFun := ⟨22, [true, true], [.tmp 4],
 .seq (.seqr [
  ⟨some 4, .op (.mov (.c (.bool false))), none, 0, [], [], false⟩])
  (.seq (.seq (.seqr [
  ⟨some 6, .op (.mov (.t 0)), none, 0, [], [], false⟩,
  ⟨some 7, .op (.eqv 3 false true [t_api_Errno, t_reflectlite_flag, t_abi_Kind] (.t 6) (.c .nili)), none, 1, [], [], false⟩,
  ⟨some 8, .op (.mov (.t 7)), none, 2, [], [], false⟩,
  ⟨some 9, .op (.mov (.t 1)), some (8, false), 3, [], [], false⟩,
  ⟨some 10, .op (.eqv 3 false true [t_api_Errno, t_reflectlite_flag, t_abi_Kind] (.t 9) (.c .nili)), some (8, false), 4, [], [], false⟩,
  ⟨some 11, .op (.pick (.t 8) (.c (.bool true)) (.t 10)), none, 5, [], [], false⟩])
  (.cond (.t 11)
  (.seq (.seqr [
   ⟨some 12, .op (.mov (.t 0)), none, 0, [], [], false⟩,
   ⟨some 13, .op (.mov (.t 1)), none, 1, [], [], false⟩,
   ⟨some 14, .op (.eqv 3 false false [t_api_Errno, t_reflectlite_flag, t_abi_Kind] (.t 12) (.t 13)), none, 2, [], [], false⟩,
   ⟨some 4, .op (.mov (.t 14)), none, 3, [], [], false⟩])
   (.ret))
  (.skip)))
  (.seq (.seqr [
  ⟨some 15, .op (.mov (.t 1)), none, 0, [], [], false⟩,
  ⟨some 16, .call n_reflectlite_TypeOf [(.t 15)], none, 1, [], [], false⟩,
  ⟨some 17, .inv [(t_reflectlite_rtype, n_reflectlite_rtype_Comparable)] (.t 16) [], none, 2, [], [], false⟩,
  ⟨some 5, .op (.mov (.t 17)), none, 3, [], [], false⟩])
  (.seq (.seqr [
  ⟨some 18, .op (.mov (.t 0)), none, 0, [], [], false⟩,
  ⟨some 19, .op (.mov (.t 1)), none, 1, [], [], false⟩,
  ⟨some 20, .op (.mov (.t 5)), none, 2, [], [], false⟩,
  ⟨some 21, .call n_errors_is [(.t 18), (.t 19), (.t 20)], none, 3, [], [], false⟩,
  ⟨some 4, .op (.mov (.t 21)), none, 4, [], [], false⟩])
  (.ret))))⟩
/-! (*seneschal/tgs.Server).judge -/
def d_tgs_Server_judge : DFun := ⟨76, [false, true, true], [.cell 6 7 true, .tmp 7],
 .seq (.seqr [
  ⟨some 4, .op (.box 0 (.t 1)), none, 0, [], [], false⟩,
  ⟨some 6, .op (.alloc (.box [(.str []), (.str []), .nils, (.int .i64 0), (.int .i64 0), (.int .i64 0), (.int .i64 0)])), none, 1, [], [], false⟩,
  ⟨some 7, .op (.mov (.c (.int .i64 0))), none, 2, [], [], false⟩])
  (.seq (.drwr [
  ⟨some 10, .op (.faddr 0 (.t 4)), none, 0, [], [], false⟩,
  ⟨some 11, .op (.load 7 true (.t 10)), none, 1, [], [], false⟩,
  ⟨some 12, .op (.faddr 7 (.t 4)), none, 2, [], [], false⟩,
  ⟨some 13, .op (.load 3 true (.t 12)), none, 3, [], [], false⟩,
  ⟨some 14, .op (.mov (.t 2)), none, 4, [], [], false⟩,
  ⟨some 15, .op (.mov (.t 0)), none, 5, [], [], false⟩,
  ⟨some 16, .op (.nilchk (.t 15)), none, 6, [], [], false⟩,
  ⟨some 17, .op (.faddr 2 (.t 16)), none, 7, [], [], false⟩,
  ⟨some 18, .op (.load 1 false (.t 17)), none, 8, [], [], false⟩,
  ⟨some 19, .call n_ticket_Judge [(.t 11), (.t 13), (.c (.str [107, 114, 98, 116, 103, 116])), (.t 14), (.t 18)], none, 9, [], [], false⟩,
  ⟨some 8, .op (.mov (.t 19)), none, 10, [], [], false⟩])
  (.seq (.seq (.seqr [
  ⟨some 20, .op (.mov (.t 8)), none, 0, [], [], false⟩,
  ⟨some 21, .op (.bin .eql (.t 20) (.c (.int .i64 0))), none, 1, [], [], false⟩])
  (.cond (.t 21)
  (.seq (.drwr [
   ⟨some 22, .op (.faddr 7 (.t 4)), none, 0, [], [], false⟩,
   ⟨some 23, .op (.faddr 0 (.t 22)), none, 1, [], [], false⟩,
   ⟨some 27, .op (.faddr 7 (.t 4)), none, 5, [], [], false⟩,
   ⟨some 28, .op (.faddr 1 (.t 27)), none, 6, [], [], false⟩,
   ⟨some 29, .op (.load 1 false (.t 28)), none, 7, [], [], false⟩,
   ⟨some 30, .call n_strconv_Itoa_89 [(.t 29)], none, 8, [], [], false⟩,
   ⟨some 33, .op (.faddr 7 (.t 4)), none, 11, [], [], false⟩,
   ⟨some 34, .op (.faddr 2 (.t 33)), none, 12, [], [], false⟩,
   ⟨some 35, .op (.load 1 false (.t 34)), none, 13, [], [5], false⟩,
   ⟨some 36, .call n_strconv_Itoa_89 [(.t 35)], none, 14, [5], [], false⟩,
   ⟨some 24, .op (.load 1 false (.t 23)), none, 2, [], [5, 9], false⟩,
   ⟨some 25, .op (.bin .add (.c (.str [116, 103, 32])) (.t 24)), none, 3, [], [], false⟩,
   ⟨some 26, .op (.bin .add (.t 25) (.c (.str [32]))), none, 4, [], [], false⟩,
   ⟨some 31, .op (.bin .add (.t 26) (.t 30)), none, 9, [], [], false⟩,
   ⟨some 32, .op (.bin .add (.t 31) (.c (.str [32]))), none, 10, [], [], false⟩,
   ⟨some 37, .op (.bin .add (.t 32) (.t 36)), none, 15, [], [], false⟩,
   ⟨some 9, .op (.mov (.t 37)), none, 16, [], [], false⟩])
   (.drwr [
   ⟨some 39, .op (.mov (.t 0)), none, 0, [], [], false⟩,
   ⟨some 40, .op (.nilchk (.t 39)), none, 1, [], [], false⟩,
   ⟨some 41, .op (.faddr 1 (.t 40)), none, 2, [], [], false⟩,
   ⟨some 42, .op (.load 1 false (.t 41)), none, 3, [], [], false⟩,
   ⟨some 43, .op (.mov (.t 9)), none, 4, [], [], false⟩,
   ⟨some 44, .op (.faddr 7 (.t 4)), none, 5, [], [], false⟩,
   ⟨some 45, .op (.faddr 1 (.t 44)), none, 6, [], [], false⟩,
   ⟨some 46, .op (.load 1 false (.t 45)), none, 7, [], [], false⟩,
   ⟨some 47, .op (.mov (.t 2)), none, 8, [], [], false⟩,
   ⟨some 48, .call n_cache_Replay_See [(.t 42), (.t 43), (.t 46), (.t 47)], none, 9, [], [], false⟩,
   ⟨some 38, .op (.mov (.t 48)), none, 10, [], [], false⟩,
   ⟨some 49, .op (.ext 0 (.t 38)), none, 11, [], [], false⟩,
   ⟨some 50, .op (.ext 1 (.t 38)), none, 12, [], [], false⟩,
   ⟨some 8, .op (.mov (.t 49)), none, 13, [], [], false⟩]))
  (.skip)))
  (.seq (.block 0 (.seq (.seqr [
  ⟨some 52, .op (.mov (.t 8)), none, 0, [], [], false⟩,
  ⟨some 53, .op (.bin .neq (.t 52) (.c (.int .i64 0))), none, 1, [], [], false⟩,
  ⟨some 51, .op (.mov (.t 53)), none, 2, [], [], false⟩])
  (.cond (.t 51)
  (.seq (.seqr [
   ⟨some 54, .op (.build [(.str []), (.str []), .nils, (.int .i64 0), (.int .i64 0), (.int .i64 0), (.int .i64 0)] []), none, 0, [], [], false⟩,
   ⟨some 55, .op (.mov (.t 8)), none, 1, [], [], false⟩,
   ⟨none, .op (.store 7 (.t 6) (.t 54)), none, 2, [], [], false⟩,
   ⟨some 7, .op (.mov (.t 55)), none, 3, [], [], false⟩])
   (.ret))
  (.seq (.seqr [
   ⟨some 57, .op (.faddr 10 (.t 4)), none, 0, [], [], false⟩,
   ⟨some 58, .op (.faddr 0 (.t 57)), none, 1, [], [], false⟩,
   ⟨some 59, .op (.load 1 false (.t 58)), none, 2, [], [], false⟩,
   ⟨some 60, .op (.bin .eql (.t 59) (.c (.int .i64 1))), none, 3, [], [], false⟩,
   ⟨some 56, .op (.mov (.t 60)), none, 4, [], [], false⟩])
   (.cond (.t 56)
   (.seq (.seqr [
    ⟨some 61, .op (.faddr 0 (.t 4)), none, 0, [], [], false⟩,
    ⟨some 62, .op (.load 7 true (.t 61)), none, 1, [], [], false⟩,
    ⟨some 63, .op (.mov (.t 2)), none, 2, [], [], false⟩,
    ⟨some 64, .call n_tgs_Renewed [(.t 62), (.t 63)], none, 3, [], [], false⟩,
    ⟨some 65, .op (.ext 0 (.t 64)), none, 4, [], [], false⟩,
    ⟨some 66, .op (.ext 1 (.t 64)), none, 5, [], [], false⟩,
    ⟨none, .op (.store 7 (.t 6) (.t 65)), none, 6, [], [], false⟩,
    ⟨some 7, .op (.mov (.t 66)), none, 7, [], [], false⟩])
    (.ret))
   (.skip))))))
  (.seq (.seqr [
  ⟨some 67, .op (.mov (.t 0)), none, 0, [], [], false⟩,
  ⟨some 68, .op (.faddr 0 (.t 4)), none, 1, [], [], false⟩,
  ⟨some 69, .op (.load 7 true (.t 68)), none, 2, [], [], false⟩,
  ⟨some 70, .op (.faddr 10 (.t 4)), none, 3, [], [], false⟩,
  ⟨some 71, .op (.load 6 true (.t 70)), none, 4, [], [], false⟩,
  ⟨some 72, .op (.mov (.t 2)), none, 5, [], [], false⟩,
  ⟨some 73, .call n_tgs_Server_fresh [(.t 67), (.t 69), (.t 71), (.t 72)], none, 6, [], [], false⟩,
  ⟨some 74, .op (.ext 0 (.t 73)), none, 7, [], [], false⟩,
  ⟨some 75, .op (.ext 1 (.t 73)), none, 8, [], [], false⟩,
  ⟨none, .op (.store 7 (.t 6) (.t 74)), none, 9, [], [], false⟩,
  ⟨some 7, .op (.mov (.t 75)), none, 10, [], [], false⟩])
  (.ret)))))⟩
/-! seneschal/ticket.look -/
def d_ticket_look : DFun := ⟨41, [true], [.tmp 2],
 .seq (.seqr [
  ⟨some 1, .op (.box 0 (.t 0)), none, 0, [], [], false⟩,
  ⟨some 2, .op (.mov (.c .nili)), none, 1, [], [], false⟩])
  (.seq (.drwr [
  ⟨some 4, .op (.faddr 0 (.t 1)), none, 0, [], [], false⟩,
  ⟨some 6, .op (.faddr 1 (.t 1)), none, 2, [], [], false⟩,
  ⟨some 10, .op (.faddr 3 (.t 1)), none, 6, [], [], false⟩,
  ⟨some 12, .op (.faddr 4 (.t 1)), none, 8, [], [], false⟩,
  ⟨some 14, .op (.faddr 5 (.t 1)), none, 10, [], [], false⟩,
  ⟨some 5, .op (.load 1 false (.t 4)), none, 1, [], [], false⟩,
  ⟨some 7, .op (.load 1 false (.t 6)), none, 3, [], [], false⟩,
  ⟨some 8, .op (.bsl 1 [(.str []), (.str [])] [(0, (.t 5)), (1, (.t 7))]), none, 4, [], [], false⟩,
  ⟨some 9, .call n_ticket_names [(.t 8)], none, 5, [7], [], false⟩,
  ⟨some 11, .op (.load 1 false (.t 10)), none, 7, [], [7, 8], false⟩,
  ⟨some 13, .op (.load 1 false (.t 12)), none, 9, [], [7, 8], false⟩,
  ⟨some 15, .op (.load 1 false (.t 14)), none, 11, [], [7, 8], false⟩,
  ⟨some 16, .op (.bsl 1 [(.int .i64 0), (.int .i64 0), (.int .i64 0)] [(0, (.t 11)), (1, (.t 13)), (2, (.t 15))]), none, 12, [], [7, 8], true⟩,
  ⟨some 17, .call n_ticket_times [(.t 16)], none, 13, [7, 8, 12], [], false⟩,
  ⟨some 18, .op (.bsl 1 [.nili, .nili] [(0, (.t 9)), (1, (.t 17))]), none, 14, [7, 8, 12, 13], [], false⟩,
  ⟨some 19, .call n_errors_Join [(.t 18)], none, 15, [7, 8, 12, 13, 14], [], false⟩,
  ⟨some 3, .op (.mov (.t 19)), none, 16, [], [], false⟩])
  (.seq (.seq (.seqr [
  ⟨some 20, .op (.faddr 4 (.t 1)), none, 0, [], [], false⟩,
  ⟨some 21, .op (.load 1 false (.t 20)), none, 1, [], [], false⟩,
  ⟨some 22, .op (.faddr 3 (.t 1)), none, 2, [], [], false⟩,
  ⟨some 23, .op (.load 1 false (.t 22)), none, 3, [], [], false⟩,
  ⟨some 24, .op (.bin .leq (.t 21) (.t 23)), none, 4, [], [], false⟩,
  ⟨some 25, .op (.mov (.t 24)), none, 5, [], [], false⟩,
  ⟨some 26, .op (.faddr 6 (.t 1)), some (25, false), 6, [], [], false⟩,
  ⟨some 27, .op (.load 1 false (.t 26)), some (25, false), 7, [], [], false⟩,
  ⟨some 28, .op (.bin .lss (.t 27) (.c (.int .i64 0))), some (25, false), 8, [], [], false⟩,
  ⟨some 29, .op (.pick (.t 25) (.c (.bool true)) (.t 28)), none, 9, [], [], false⟩,
  ⟨some 30, .op (.mov (.t 29)), none, 10, [], [], false⟩,
  ⟨some 31, .op (.faddr 6 (.t 1)), some (30, false), 11, [], [], false⟩,
  ⟨some 32, .op (.load 1 false (.t 31)), some (30, false), 12, [], [], false⟩,
  ⟨some 33, .op (.bin .gtr (.t 32) (.c (.int .i64 15))), some (30, false), 13, [], [], false⟩,
  ⟨some 34, .op (.pick (.t 30) (.c (.bool true)) (.t 33)), none, 14, [], [], false⟩])
  (.cond (.t 34)
  (.seqr [
   ⟨some 35, .op (.mov (.t 3)), none, 0, [], [], false⟩,
   ⟨some 36, .op (.build [(.str [])] [(0, 1, (.c (.str [102, 108, 97, 103, 115])))]), none, 1, [], [], false⟩,
   ⟨some 37, .op (.mki t_ticket_bad (.t 36)), none, 2, [], [], false⟩,
   ⟨some 38, .op (.bsl 1 [.nili, .nili] [(0, (.t 35)), (1, (.t 37))]), none, 3, [], [], false⟩,
   ⟨some 39, .call n_errors_Join [(.t 38)], none, 4, [], [], false⟩,
   ⟨some 3, .op (.mov (.t 39)), none, 5, [], [], false⟩])
  (.skip)))
  (.seq (.seqr [
  ⟨some 40, .op (.mov (.t 3)), none, 0, [], [], false⟩,
  ⟨some 2, .op (.mov (.t 40)), none, 1, [], [], false⟩])
  (.ret))))⟩
/-! seneschal/ticket.number -/
def d_ticket_number : DFun := ⟨6, [true], [.tmp 2],
 .seq (.seqr [
  ⟨some 2, .op (.mov (.c (.int .i64 0))), none, 0, [], [], false⟩])
  (.seq (.seq (.seqr [
  ⟨some 3, .op (.mov (.t 0)), none, 0, [], [], false⟩,
  ⟨some 4, .op (.mki t_api_Errno (.c (.int .i64 200))), none, 1, [], [], false⟩,
  ⟨some 5, .call n_errors_Is [(.t 3), (.t 4)], none, 2, [], [], false⟩])
  (.cond (.t 5)
  (.seq (.seqr [
   ⟨some 2, .op (.mov (.c (.int .i64 200))), none, 0, [], [], false⟩])
   (.ret))
  (.skip)))
  (.seq (.seqr [
  ⟨some 2, .op (.mov (.c (.int .i64 0))), none, 0, [], [], false⟩])
  (.ret)))⟩
/-! seneschal/ticket.value -/
def l_ticket_value_0 : DCode := .seq (.seqr [
  ⟨some 11, .op (.bin .lss (.t 10) (.t 9)), none, 0, [], [], false⟩])
  (.seq (.cond (.t 11)
  (.skip)
  (.exit 0))
  (.seq (.block 1 (.seq (.seqr [
  ⟨some 12, .op (.mov (.t 10)), none, 0, [], [], false⟩,
  ⟨some 13, .op (.iaddr none 1 (.t 8) (.t 10)), none, 1, [], [], false⟩,
  ⟨some 14, .op (.load 1 false (.t 13)), none, 2, [], [], false⟩,
  ⟨some 4, .op (.mov (.t 12)), none, 3, [], [], false⟩,
  ⟨some 5, .op (.mov (.t 14)), none, 4, [], [], false⟩])
  (.seqr [
  ⟨some 15, .op (.mov (.t 3)), none, 0, [], [], false⟩,
  ⟨some 16, .op (.mov (.t 4)), none, 1, [], [], false⟩,
  ⟨some 17, .op (.bin .add (.t 16) (.c (.int .i64 1))), none, 2, [], [], false⟩,
  ⟨some 18, .op (.mov (.t 5)), none, 3, [], [], false⟩,
  ⟨some 19, .op (.build [(.int .i64 0), .nils] [(0, 1, (.t 17)), (1, 1, (.t 18))]), none, 4, [], [], false⟩,
  ⟨some 20, .op (.bsl 2 [(.agg [(.int .i64 0), .nils])] [(0, (.t 19))]), none, 5, [], [], false⟩,
  ⟨some 21, .op (.app 2 32 (.t 15) (.t 20)), none, 6, [], [], false⟩,
  ⟨some 3, .op (.mov (.t 21)), none, 7, [], [], false⟩])))
  (.seqr [
  ⟨some 22, .op (.bin .add (.t 10) (.c (.int .i64 1))), none, 0, [], [], false⟩,
  ⟨some 10, .op (.mov (.t 22)), none, 1, [], [], false⟩])))
def d_ticket_value : DFun := ⟨29, [true], [.tmp 2],
 .seq (.seqr [
  ⟨some 2, .op (.mov (.c .nils)), none, 0, [], [], false⟩])
  (.seq (.seqr [
  ⟨some 3, .op (.mov (.c .nils)), none, 0, [], [], false⟩])
  (.seq (.seq (.seqr [
  ⟨some 8, .op (.mov (.t 0)), none, 0, [], [], false⟩,
  ⟨some 9, .op (.lenL (.t 8)), none, 1, [], [], false⟩,
  ⟨some 10, .op (.mov (.c (.int .i64 0))), none, 2, [], [], false⟩])
  (.block 0 (.loop [3, 8, 9, 10] l_ticket_value_0)))
  (.seq (.seqr [
  ⟨some 24, .op (.mov (.t 3)), none, 0, [], [], false⟩,
  ⟨some 25, .call n_wire_Put [(.t 24)], none, 1, [], [], false⟩,
  ⟨some 23, .op (.mov (.t 25)), none, 2, [], [], false⟩,
  ⟨some 26, .op (.ext 0 (.t 23)), none, 3, [], [], false⟩,
  ⟨some 27, .op (.ext 1 (.t 23)), none, 4, [], [], false⟩,
  ⟨some 6, .op (.mov (.t 26)), none, 5, [], [], false⟩,
  ⟨some 7, .op (.mov (.t 27)), none, 6, [], [], false⟩])
  (.seq (.seqr [
  ⟨some 28, .op (.mov (.t 6)), none, 0, [], [], false⟩,
  ⟨some 2, .op (.mov (.t 28)), none, 1, [], [], false⟩])
  (.ret)))))⟩
/-! seneschal/ticket.right -/
def d_ticket_right : DFun := ⟨13, [true], [.tmp 2],
 .seq (.seqr [
  ⟨some 1, .op (.box 0 (.t 0)), none, 0, [], [], false⟩,
  ⟨some 2, .op (.mov (.c .nili)), none, 1, [], [], false⟩])
  (.seq (.drwr [
  ⟨some 3, .op (.faddr 0 (.t 1)), none, 0, [], [], false⟩,
  ⟨some 7, .op (.faddr 1 (.t 1)), none, 4, [], [], false⟩,
  ⟨some 4, .op (.load 1 false (.t 3)), none, 1, [], [], false⟩,
  ⟨some 5, .op (.bsl 1 [(.str [])] [(0, (.t 4))]), none, 2, [], [], false⟩,
  ⟨some 6, .call n_ticket_names [(.t 5)], none, 3, [3], [], false⟩,
  ⟨some 8, .op (.load 1 false (.t 7)), none, 5, [], [3, 4], false⟩,
  ⟨some 9, .op (.bsl 1 [(.int .i64 0)] [(0, (.t 8))]), none, 6, [], [3, 4], true⟩,
  ⟨some 10, .call n_ticket_times [(.t 9)], none, 7, [3, 4, 6], [], false⟩,
  ⟨some 11, .op (.bsl 1 [.nili, .nili] [(0, (.t 6)), (1, (.t 10))]), none, 8, [3, 4, 6, 7], [], false⟩,
  ⟨some 12, .call n_errors_Join [(.t 11)], none, 9, [3, 4, 6, 7, 8], [], false⟩,
  ⟨some 2, .op (.mov (.t 12)), none, 10, [], [], false⟩])
  (.ret))⟩
/-! seneschal/seal.Seal -/
def d_seal_Seal : DFun := ⟨51, [true, true, true, true], [.tmp 8, .tmp 9],
 .seq (.seqr [
  ⟨some 8, .op (.mov (.c .nils)), none, 0, [], [], false⟩,
  ⟨some 9, .op (.mov (.c (.int .i64 0))), none, 1, [], [], false⟩])
  (.seq (.seqr [
  ⟨some 15, .op (.mov (.t 0)), none, 0, [], [], false⟩,
  ⟨some 16, .op (.mov (.t 1)), none, 1, [], [], false⟩,
  ⟨some 17, .call n_seal_keys [(.t 15), (.t 16)], none, 2, [], [], false⟩,
  ⟨some 14, .op (.mov (.t 17)), none, 3, [], [], false⟩,
  ⟨some 18, .op (.ext 0 (.t 14)), none, 4, [], [], false⟩,
  ⟨some 19, .op (.ext 1 (.t 14)), none, 5, [], [], false⟩,
  ⟨some 10, .op (.alloc (.box [.nils, .nils])), none, 6, [], [], false⟩,
  ⟨none, .op (.store 2 (.t 10) (.t 18)), none, 7, [], [], false⟩,
  ⟨some 11, .op (.mov (.t 19)), none, 8, [], [], false⟩])
  (.seq (.block 0 (.seq (.seqr [
  ⟨some 21, .op (.mov (.t 11)), none, 0, [], [], false⟩,
  ⟨some 22, .op (.eqv 3 true true [t_api_Errno, t_reflectlite_flag, t_abi_Kind] (.t 21) (.c .nili)), none, 1, [], [], false⟩,
  ⟨some 23, .op (.mov (.t 22)), none, 2, [], [], false⟩,
  ⟨some 24, .op (.mov (.t 2)), some (23, false), 3, [], [], false⟩,
  ⟨some 25, .op (.lenL (.t 24)), some (23, false), 4, [], [], false⟩,
  ⟨some 26, .op (.bin .neq (.t 25) (.c (.int .i64 16))), some (23, false), 5, [], [], false⟩,
  ⟨some 27, .op (.pick (.t 23) (.c (.bool true)) (.t 26)), none, 6, [], [], false⟩,
  ⟨some 20, .op (.mov (.t 27)), none, 7, [], [], false⟩])
  (.cond (.t 20)
  (.seq (.seqr [
   ⟨some 8, .op (.mov (.c .nils)), none, 0, [], [], false⟩,
   ⟨some 9, .op (.mov (.c (.int .i64 2))), none, 1, [], [], false⟩])
   (.ret))
  (.seq (.seqr [
   ⟨some 29, .op (.mov (.t 3)), none, 0, [], [], false⟩,
   ⟨some 30, .op (.lenL (.t 29)), none, 1, [], [], false⟩,
   ⟨some 31, .op (.bin .gtr (.t 30) (.c (.int .i64 4096))), none, 2, [], [], false⟩,
   ⟨some 28, .op (.mov (.t 31)), none, 3, [], [], false⟩])
   (.cond (.t 28)
   (.seq (.seqr [
    ⟨some 8, .op (.mov (.c .nils)), none, 0, [], [], false⟩,
    ⟨some 9, .op (.mov (.c (.int .i64 3))), none, 1, [], [], false⟩])
    (.ret))
   (.skip))))))
  (.seq (.seqr [
  ⟨some 32, .op (.bsl 1 [] []), none, 0, [], [], false⟩,
  ⟨some 33, .op (.mov (.t 2)), none, 1, [], [], false⟩,
  ⟨some 34, .op (.app 1 1 (.t 32) (.t 33)), none, 2, [], [], false⟩,
  ⟨some 35, .op (.mov (.t 3)), none, 3, [], [], false⟩,
  ⟨some 36, .op (.app 1 1 (.t 34) (.t 35)), none, 4, [], [], false⟩,
  ⟨some 12, .op (.mov (.t 36)), none, 5, [], [], false⟩])
  (.seq (.seqr [
  ⟨some 37, .op (.load 2 true (.t 10)), none, 0, [], [], false⟩,
  ⟨some 38, .op (.mov (.t 12)), none, 1, [], [], false⟩,
  ⟨some 39, .call n_seal_pair_chain [(.t 37), (.t 38)], none, 2, [], [], false⟩,
  ⟨some 13, .op (.mov (.t 39)), none, 3, [], [], false⟩])
  (.seq (.seqr [
  ⟨some 40, .op (.mov (.t 13)), none, 0, [], [], false⟩,
  ⟨some 41, .call n_seal_swap [(.t 40)], none, 1, [], [], false⟩])
  (.seq (.seqr [
  ⟨some 42, .op (.mov (.t 13)), none, 0, [], [], false⟩,
  ⟨some 43, .op (.mov (.t 12)), none, 1, [], [], false⟩,
  ⟨some 44, .op (.lenL (.t 43)), none, 2, [], [], false⟩,
  ⟨some 45, .op (.slcL 1 (.t 42) none (some (.t 44))), none, 3, [], [], false⟩,
  ⟨some 13, .op (.mov (.t 45)), none, 4, [], [], false⟩])
  (.seq (.seqr [
  ⟨some 46, .op (.mov (.t 13)), none, 0, [], [], false⟩,
  ⟨some 47, .op (.load 2 true (.t 10)), none, 1, [], [], false⟩,
  ⟨some 48, .op (.mov (.t 13)), none, 2, [], [], false⟩,
  ⟨some 49, .call n_seal_pair_tag [(.t 47), (.t 48)], none, 3, [], [], false⟩,
  ⟨some 50, .op (.app 1 1 (.t 46) (.t 49)), none, 4, [], [], false⟩,
  ⟨some 8, .op (.mov (.t 50)), none, 5, [], [], false⟩,
  ⟨some 9, .op (.mov (.c (.int .i64 0))), none, 6, [], [], false⟩])
  (.ret))))))))⟩
/-! seneschal/wire.check -/
def l_wire_check_0 : DCode := .seq (.seqr [
  ⟨some 17, .op (.bin .lss (.t 16) (.t 15)), none, 0, [], [], false⟩])
  (.seq (.cond (.t 17)
  (.skip)
  (.exit 0))
  (.seq (.block 1 (.seq (.seqr [
  ⟨some 18, .op (.mov (.t 16)), none, 0, [], [], false⟩,
  ⟨some 19, .op (.iaddr none 2 (.t 14) (.t 16)), none, 1, [], [], false⟩,
  ⟨some 20, .op (.load 2 true (.t 19)), none, 2, [], [], false⟩,
  ⟨some 7, .op (.alloc (.box [(.int .i64 0), .nils])), none, 3, [], [], false⟩,
  ⟨some 6, .op (.mov (.t 18)), none, 4, [], [], false⟩,
  ⟨none, .op (.store 2 (.t 7) (.t 20)), none, 5, [], [], false⟩])
  (.seq (.seq (.seqr [
  ⟨some 21, .op (.faddr 0 (.t 7)), none, 0, [], [], false⟩,
  ⟨some 22, .op (.load 1 false (.t 21)), none, 1, [], [], false⟩,
  ⟨some 23, .op (.mov (.t 3)), none, 2, [], [], false⟩,
  ⟨some 24, .op (.bin .leq (.t 22) (.t 23)), none, 3, [], [], false⟩,
  ⟨some 25, .op (.mov (.t 24)), none, 4, [], [], false⟩,
  ⟨some 26, .op (.faddr 0 (.t 7)), some (25, false), 5, [], [], false⟩,
  ⟨some 27, .op (.load 1 false (.t 26)), some (25, false), 6, [], [], false⟩,
  ⟨some 28, .op (.bin .gtr (.t 27) (.c (.int .i64 255))), some (25, false), 7, [], [], false⟩,
  ⟨some 29, .op (.pick (.t 25) (.c (.bool true)) (.t 28)), none, 8, [], [], false⟩,
  ⟨some 30, .op (.mov (.t 29)), none, 9, [], [], false⟩,
  ⟨some 31, .op (.faddr 1 (.t 7)), some (30, false), 10, [], [], false⟩,
  ⟨some 32, .op (.load 1 false (.t 31)), some (30, false), 11, [], [], false⟩,
  ⟨some 33, .op (.lenL (.t 32)), some (30, false), 12, [], [], false⟩,
  ⟨some 34, .op (.bin .gtr (.t 33) (.c (.int .i64 4096))), some (30, false), 13, [], [], false⟩,
  ⟨some 35, .op (.pick (.t 30) (.c (.bool true)) (.t 34)), none, 14, [], [], false⟩])
  (.cond (.t 35)
  (.seq (.seqr [
   ⟨some 36, .op (.mov (.t 6)), none, 0, [], [], false⟩,
   ⟨some 37, .op (.build [(.int .i64 0), (.int .i64 0)] [(0, 1, (.t 36)), (1, 1, (.c (.int .i64 80)))]), none, 1, [], [], false⟩,
   ⟨some 38, .op (.box 0 (.t 37)), none, 2, [], [], false⟩,
   ⟨some 39, .op (.mki t_P_wire_fault (.t 38)), none, 3, [], [], false⟩,
   ⟨some 2, .op (.mov (.t 39)), none, 4, [], [], false⟩])
   (.ret))
  (.skip)))
  (.seq (.seqr [
  ⟨some 40, .op (.faddr 0 (.t 7)), none, 0, [], [], false⟩,
  ⟨some 41, .op (.load 1 false (.t 40)), none, 1, [], [], false⟩,
  ⟨some 3, .op (.mov (.t 41)), none, 2, [], [], false⟩])
  (.seq (.seqr [
  ⟨some 42, .op (.mov (.t 4)), none, 0, [], [], false⟩,
  ⟨some 43, .op (.faddr 1 (.t 7)), none, 1, [], [], false⟩,
  ⟨some 44, .op (.load 1 false (.t 43)), none, 2, [], [], false⟩,
  ⟨some 45, .op (.lenL (.t 44)), none, 3, [], [], false⟩,
  ⟨some 46, .op (.bin .add (.c (.int .i64 3)) (.t 45)), none, 4, [], [], false⟩,
  ⟨some 47, .op (.bin .add (.t 42) (.t 46)), none, 5, [], [], false⟩,
  ⟨some 4, .op (.mov (.t 47)), none, 6, [], [], false⟩])
  (.seq (.seqr [
  ⟨some 48, .op (.mov (.t 4)), none, 0, [], [], false⟩,
  ⟨some 49, .op (.bin .gtr (.t 48) (.c (.int .i64 4096))), none, 1, [], [], false⟩,
  ⟨some 50, .op (.mov (.t 49)), none, 2, [], [], false⟩,
  ⟨some 51, .op (.mov (.t 5)), some (50, true), 3, [], [], false⟩,
  ⟨some 52, .op (.eqv 3 false true [t_api_Errno, t_reflectlite_flag, t_abi_Kind] (.t 51) (.c .nili)), some (50, true), 4, [], [], false⟩,
  ⟨some 53, .op (.pick (.t 50) (.t 52) (.c (.bool false))), none, 5, [], [], false⟩])
  (.cond (.t 53)
  (.seqr [
   ⟨some 54, .op (.mov (.t 6)), none, 0, [], [], false⟩,
   ⟨some 55, .op (.build [(.int .i64 0), (.int .i64 0)] [(0, 1, (.t 54)), (1, 1, (.c (.int .i64 3)))]), none, 1, [], [], false⟩,
   ⟨some 56, .op (.box 0 (.t 55)), none, 2, [], [], false⟩,
   ⟨some 57, .op (.mki t_P_wire_fault (.t 56)), none, 3, [], [], false⟩,
   ⟨some 5, .op (.mov (.t 57)), none, 4, [], [], false⟩])
  (.skip))))))))
  (.seqr [
  ⟨some 58, .op (.bin .add (.t 16) (.c (.int .i64 1))), none, 0, [], [], false⟩,
  ⟨some 16, .op (.mov (.t 58)), none, 1, [], [], false⟩])))
def d_wire_check : DFun := ⟨60, [true], [.tmp 2],
 .seq (.seqr [
  ⟨some 2, .op (.mov (.c .nili)), none, 0, [], [], false⟩])
  (.seq (.seq (.seqr [
  ⟨some 8, .op (.mov (.t 0)), none, 0, [], [], false⟩,
  ⟨some 9, .op (.lenL (.t 8)), none, 1, [], [], false⟩,
  ⟨some 10, .op (.bin .gtr (.t 9) (.c (.int .i64 256))), none, 2, [], [], false⟩])
  (.cond (.t 10)
  (.seq (.seqr [
   ⟨some 11, .op (.build [(.int .i64 0), (.int .i64 0)] [(0, 1, (.c (.int .i64 0))), (1, 1, (.c (.int .i64 3)))]), none, 0, [], [], false⟩,
   ⟨some 12, .op (.box 0 (.t 11)), none, 1, [], [], false⟩,
   ⟨some 13, .op (.mki t_P_wire_fault (.t 12)), none, 2, [], [], false⟩,
   ⟨some 2, .op (.mov (.t 13)), none, 3, [], [], false⟩])
   (.ret))
  (.skip)))
  (.seq (.seqr [
  ⟨some 3, .op (.mov (.c (.int .i64 0))), none, 0, [], [], false⟩,
  ⟨some 4, .op (.mov (.c (.int .i64 0))), none, 1, [], [], false⟩])
  (.seq (.seqr [
  ⟨some 5, .op (.mov (.c .nili)), none, 0, [], [], false⟩])
  (.seq (.seq (.seqr [
  ⟨some 14, .op (.mov (.t 0)), none, 0, [], [], false⟩,
  ⟨some 15, .op (.lenL (.t 14)), none, 1, [], [], false⟩,
  ⟨some 16, .op (.mov (.c (.int .i64 0))), none, 2, [], [], false⟩])
  (.block 0 (.loop [3, 4, 5, 14, 15, 16] l_wire_check_0)))
  (.seq (.seqr [
  ⟨some 59, .op (.mov (.t 5)), none, 0, [], [], false⟩,
  ⟨some 2, .op (.mov (.t 59)), none, 1, [], [], false⟩])
  (.ret))))))⟩
/-! seneschal/wire.cut -/
def d_wire_cut : DFun := ⟨43, [true, true], [.tmp 4, .tmp 5, .tmp 6],
 .seq (.seqr [
  ⟨some 4, .op (.mov (.c .nils)), none, 0, [], [], false⟩,
  ⟨some 5, .op (.mov (.c .nils)), none, 1, [], [], false⟩,
  ⟨some 6, .op (.mov (.c .nili)), none, 2, [], [], false⟩])
  (.seq (.seq (.seqr [
  ⟨some 8, .op (.mov (.t 0)), none, 0, [], [], false⟩,
  ⟨some 9, .op (.lenL (.t 8)), none, 1, [], [], false⟩,
  ⟨some 10, .op (.bin .lss (.t 9) (.c (.int .i64 2))), none, 2, [], [], false⟩])
  (.cond (.t 10)
  (.seq (.seqr [
   ⟨some 11, .op (.mov (.t 1)), none, 0, [], [], false⟩,
   ⟨some 12, .op (.build [(.int .i64 0), (.int .i64 0)] [(0, 1, (.t 11)), (1, 1, (.c (.int .i64 80)))]), none, 1, [], [], false⟩,
   ⟨some 13, .op (.box 0 (.t 12)), none, 2, [], [], false⟩,
   ⟨some 14, .op (.mki t_P_wire_fault (.t 13)), none, 3, [], [], false⟩,
   ⟨some 4, .op (.mov (.c .nils)), none, 4, [], [], false⟩,
   ⟨some 5, .op (.mov (.c .nils)), none, 5, [], [], false⟩,
   ⟨some 6, .op (.mov (.t 14)), none, 6, [], [], false⟩])
   (.ret))
  (.skip)))
  (.seq (.drwr [
  ⟨some 15, .op (.mov (.t 0)), none, 0, [], [], false⟩,
  ⟨some 16, .op (.iaddr none 1 (.t 15) (.c (.int .i64 0))), none, 1, [], [], false⟩,
  ⟨some 17, .op (.load 1 false (.t 16)), none, 2, [], [], false⟩,
  ⟨some 18, .op (.conv .i64 (.t 17)), none, 3, [], [], false⟩,
  ⟨some 19, .op (.bin .shl (.t 18) (.c (.int .u64 8))), none, 4, [], [], false⟩,
  ⟨some 20, .op (.mov (.t 0)), none, 5, [], [], false⟩,
  ⟨some 21, .op (.iaddr none 1 (.t 20) (.c (.int .i64 1))), none, 6, [], [], false⟩,
  ⟨some 22, .op (.load 1 false (.t 21)), none, 7, [], [], false⟩,
  ⟨some 23, .op (.conv .i64 (.t 22)), none, 8, [], [], false⟩,
  ⟨some 24, .op (.bin .or (.t 19) (.t 23)), none, 9, [], [], false⟩,
  ⟨some 7, .op (.mov (.t 24)), none, 10, [], [], false⟩])
  (.seq (.seq (.seqr [
  ⟨some 25, .op (.mov (.t 0)), none, 0, [], [], false⟩,
  ⟨some 26, .op (.slcL 1 (.t 25) (some (.c (.int .i64 2))) none), none, 1, [], [], false⟩,
  ⟨some 0, .op (.mov (.t 26)), none, 2, [], [], false⟩])
  (.seq (.seqr [
  ⟨some 27, .op (.mov (.t 0)), none, 0, [], [], false⟩,
  ⟨some 28, .op (.lenL (.t 27)), none, 1, [], [], false⟩,
  ⟨some 29, .op (.mov (.t 7)), none, 2, [], [], false⟩,
  ⟨some 30, .op (.bin .lss (.t 28) (.t 29)), none, 3, [], [], false⟩])
  (.cond (.t 30)
  (.seq (.seqr [
   ⟨some 31, .op (.mov (.t 1)), none, 0, [], [], false⟩,
   ⟨some 32, .op (.build [(.int .i64 0), (.int .i64 0)] [(0, 1, (.t 31)), (1, 1, (.c (.int .i64 80)))]), none, 1, [], [], false⟩,
   ⟨some 33, .op (.box 0 (.t 32)), none, 2, [], [], false⟩,
   ⟨some 34, .op (.mki t_P_wire_fault (.t 33)), none, 3, [], [], false⟩,
   ⟨some 4, .op (.mov (.c .nils)), none, 4, [], [], false⟩,
   ⟨some 5, .op (.mov (.c .nils)), none, 5, [], [], false⟩,
   ⟨some 6, .op (.mov (.t 34)), none, 6, [], [], false⟩])
   (.ret))
  (.skip))))
  (.seq (.drwr [
  ⟨some 35, .op (.bsl 1 [] []), none, 0, [], [], false⟩,
  ⟨some 36, .op (.mov (.t 0)), none, 1, [], [], false⟩,
  ⟨some 37, .op (.mov (.t 7)), none, 2, [], [], false⟩,
  ⟨some 38, .op (.slcL 1 (.t 36) none (some (.t 37))), none, 3, [], [0], false⟩,
  ⟨some 39, .op (.app 1 1 (.t 35) (.t 38)), none, 4, [0], [], false⟩,
  ⟨some 40, .op (.mov (.t 0)), none, 5, [], [], false⟩,
  ⟨some 41, .op (.mov (.t 7)), none, 6, [], [], false⟩,
  ⟨some 42, .op (.slcL 1 (.t 40) (some (.t 41)) none), none, 7, [], [0, 4], false⟩,
  ⟨some 4, .op (.mov (.t 39)), none, 8, [], [], false⟩,
  ⟨some 5, .op (.mov (.t 42)), none, 9, [], [], false⟩,
  ⟨some 6, .op (.mov (.c .nili)), none, 10, [], [], false⟩])
  (.ret)))))⟩
/-! (*seneschal/who.Book).is -/
def d_who_Book_is : DFun := ⟨12, [false], [.tmp 2],
 .seq (.seqr [
  ⟨some 2, .op (.mov (.c (.bool false))), none, 0, [], [], false⟩])
  (.seq (.seqr [
  ⟨some 3, .op (.mov (.t 0)), none, 0, [], [], false⟩,
  ⟨some 4, .op (.eqv 1 true false [] (.t 3) (.c .nilp)), none, 1, [], [], false⟩,
  ⟨some 5, .op (.mov (.t 4)), none, 2, [], [], false⟩,
  ⟨some 6, .op (.mov (.t 0)), some (5, true), 3, [], [], false⟩,
  ⟨some 7, .op (.nilchk (.t 6)), some (5, true), 4, [], [], false⟩,
  ⟨some 8, .op (.faddr 0 (.t 7)), some (5, true), 5, [], [], false⟩,
  ⟨some 9, .op (.load 1 false (.t 8)), some (5, true), 6, [], [], false⟩,
  ⟨some 10, .op (.eqv 2 true false [] (.t 9) (.c .nilm)), some (5, true), 7, [], [], false⟩,
  ⟨some 11, .op (.pick (.t 5) (.t 10) (.c (.bool false))), none, 8, [], [], false⟩,
  ⟨some 2, .op (.mov (.t 11)), none, 9, [], [], false⟩])
  (.ret))⟩
/-! seneschal/who.named -/
def l_who_named_0 : DCode := .seq (.seqr [
  ⟨some 7, .op (.bin .lss (.t 6) (.t 5)), none, 0, [], [], false⟩])
  (.seq (.cond (.t 7)
  (.skip)
  (.exit 0))
  (.seq (.block 1 (.seq (.seqr [
  ⟨some 8, .op (.mov (.t 6)), none, 0, [], [], false⟩,
  ⟨some 3, .op (.mov (.t 8)), none, 1, [], [], false⟩])
  (.seq (.seqr [
  ⟨some 9, .op (.mov (.t 0)), none, 0, [], [], false⟩,
  ⟨some 10, .op (.mov (.t 3)), none, 1, [], [], false⟩,
  ⟨some 11, .op (.idxS (.t 9) (.t 10)), none, 2, [], [], false⟩,
  ⟨some 12, .op (.bin .leq (.t 11) (.c (.int .u8 32))), none, 3, [], [], false⟩,
  ⟨some 13, .op (.mov (.t 12)), none, 4, [], [], false⟩,
  ⟨some 14, .op (.mov (.t 0)), some (13, false), 5, [], [], false⟩,
  ⟨some 15, .op (.mov (.t 3)), some (13, false), 6, [], [], false⟩,
  ⟨some 16, .op (.idxS (.t 14) (.t 15)), some (13, false), 7, [], [], false⟩,
  ⟨some 17, .op (.bin .gtr (.t 16) (.c (.int .u8 126))), some (13, false), 8, [], [], false⟩,
  ⟨some 18, .op (.pick (.t 13) (.c (.bool true)) (.t 17)), none, 9, [], [], false⟩])
  (.cond (.t 18)
  (.seq (.seqr [
   ⟨some 2, .op (.mov (.c (.bool false))), none, 0, [], [], false⟩])
   (.ret))
  (.skip)))))
  (.seqr [
  ⟨some 19, .op (.bin .add (.t 6) (.c (.int .i64 1))), none, 0, [], [], false⟩,
  ⟨some 6, .op (.mov (.t 19)), none, 1, [], [], false⟩])))
def d_who_named : DFun := ⟨28, [true], [.tmp 2],
 .seq (.seqr [
  ⟨some 2, .op (.mov (.c (.bool false))), none, 0, [], [], false⟩])
  (.seq (.seq (.seqr [
  ⟨some 4, .op (.mov (.t 0)), none, 0, [], [], false⟩,
  ⟨some 5, .op (.lenS (.t 4)), none, 1, [], [], false⟩,
  ⟨some 6, .op (.mov (.c (.int .i64 0))), none, 2, [], [], false⟩])
  (.block 0 (.loop [0, 5, 6] l_who_named_0)))
  (.seq (.seqr [
  ⟨some 20, .op (.mov (.t 0)), none, 0, [], [], false⟩,
  ⟨some 21, .op (.lenS (.t 20)), none, 1, [], [], false⟩,
  ⟨some 22, .op (.bin .geq (.t 21) (.c (.int .i64 1))), none, 2, [], [], false⟩,
  ⟨some 23, .op (.mov (.t 22)), none, 3, [], [], false⟩,
  ⟨some 24, .op (.mov (.t 0)), some (23, true), 4, [], [], false⟩,
  ⟨some 25, .op (.lenS (.t 24)), some (23, true), 5, [], [], false⟩,
  ⟨some 26, .op (.bin .leq (.t 25) (.c (.int .i64 32))), some (23, true), 6, [], [], false⟩,
  ⟨some 27, .op (.pick (.t 23) (.t 26) (.c (.bool false))), none, 7, [], [], false⟩,
  ⟨some 2, .op (.mov (.t 27)), none, 8, [], [], false⟩])
  (.ret)))⟩
/-! seneschal/who.times -/
def l_who_times_0 : DCode := .seq (.seqr [
  ⟨some 8, .op (.bin .lss (.t 7) (.t 6)), none, 0, [], [], false⟩])
  (.seq (.cond (.t 8)
  (.skip)
  (.exit 0))
  (.seq (.block 1 (.seq (.seqr [
  ⟨some 9, .op (.iaddr none 1 (.t 5) (.t 7)), none, 0, [], [], false⟩,
  ⟨some 10, .op (.load 1 false (.t 9)), none, 1, [], [], false⟩,
  ⟨some 4, .op (.mov (.t 10)), none, 2, [], [], false⟩])
  (.seq (.seqr [
  ⟨some 11, .op (.mov (.t 4)), none, 0, [], [], false⟩,
  ⟨some 12, .op (.bin .lss (.t 11) (.c (.int .i64 0))), none, 1, [], [], false⟩,
  ⟨some 13, .op (.mov (.t 12)), none, 2, [], [], false⟩,
  ⟨some 14, .op (.mov (.t 4)), some (13, false), 3, [], [], false⟩,
  ⟨some 15, .op (.bin .gtr (.t 14) (.c (.int .i64 1099511627776))), some (13, false), 4, [], [], false⟩,
  ⟨some 16, .op (.pick (.t 13) (.c (.bool true)) (.t 15)), none, 5, [], [], false⟩])
  (.cond (.t 16)
  (.seq (.seqr [
   ⟨some 2, .op (.mov (.c (.bool false))), none, 0, [], [], false⟩])
   (.ret))
  (.skip)))))
  (.seqr [
  ⟨some 17, .op (.bin .add (.t 7) (.c (.int .i64 1))), none, 0, [], [], false⟩,
  ⟨some 7, .op (.mov (.t 17)), none, 1, [], [], false⟩])))
def d_who_times : DFun := ⟨18, [true], [.tmp 2],
 .seq (.seqr [
  ⟨some 2, .op (.mov (.c (.bool false))), none, 0, [], [], false⟩])
  (.seq (.seq (.seqr [
  ⟨some 5, .op (.mov (.t 0)), none, 0, [], [], false⟩,
  ⟨some 6, .op (.lenL (.t 5)), none, 1, [], [], false⟩,
  ⟨some 7, .op (.mov (.c (.int .i64 0))), none, 2, [], [], false⟩])
  (.block 0 (.loop [5, 6, 7] l_who_times_0)))
  (.seq (.seqr [
  ⟨some 2, .op (.mov (.c (.bool true))), none, 0, [], [], false⟩])
  (.ret)))⟩
/-! (seneschal/who.Person).own -/
def d_who_Person_own : DFun := ⟨9, [true], [.cell 2 5 true],
 .seq (.seqr [
  ⟨some 1, .op (.box 0 (.t 0)), none, 0, [], [], false⟩,
  ⟨some 2, .op (.alloc (.box [(.str []), .nils, (.int .i64 0), (.int .i64 0), (.int .i64 0)])), none, 1, [], [], false⟩])
  (.seq (.seqr [
  ⟨some 3, .op (.bsl 1 [] []), none, 0, [], [], false⟩,
  ⟨some 4, .op (.faddr 1 (.t 1)), none, 1, [], [], false⟩,
  ⟨some 5, .op (.load 1 false (.t 4)), none, 2, [], [], false⟩,
  ⟨some 6, .op (.app 1 1 (.t 3) (.t 5)), none, 3, [], [], false⟩,
  ⟨some 7, .op (.faddr 1 (.t 1)), none, 4, [], [], false⟩,
  ⟨none, .op (.store 1 (.t 7) (.t 6)), none, 5, [], [], false⟩])
  (.seq (.seqr [
  ⟨some 8, .op (.load 5 true (.t 1)), none, 0, [], [], false⟩,
  ⟨none, .op (.store 5 (.t 2) (.t 8)), none, 1, [], [], false⟩])
  (.ret)))⟩
/-! seneschal/seneschalref19.Name -/
def l_ref19_Name_0 : DCode := .seq (.seq (.seqr [
  ⟨some 11, .op (.mov (.t 3)), none, 0, [], [], false⟩,
  ⟨some 12, .op (.mov (.t 0)), none, 1, [], [], false⟩,
  ⟨some 13, .op (.lenS (.t 12)), none, 2, [], [], false⟩,
  ⟨some 14, .op (.bin .lss (.t 11) (.t 13)), none, 3, [], [], false⟩])
  (.cond (.t 14)
  (.skip)
  (.exit 0)))
  (.seq (.block 1 (.seq (.seqr [
  ⟨some 17, .op (.mov (.t 0)), none, 0, [], [], false⟩,
  ⟨some 18, .op (.mov (.t 3)), none, 1, [], [], false⟩,
  ⟨some 19, .op (.idxS (.t 17) (.t 18)), none, 2, [], [], false⟩,
  ⟨some 20, .op (.bin .lss (.t 19) (.c (.int .u8 33))), none, 3, [], [], false⟩,
  ⟨some 21, .op (.mov (.t 20)), none, 4, [], [], false⟩,
  ⟨some 22, .op (.mov (.t 0)), some (21, false), 5, [], [], false⟩,
  ⟨some 23, .op (.mov (.t 3)), some (21, false), 6, [], [], false⟩,
  ⟨some 24, .op (.idxS (.t 22) (.t 23)), some (21, false), 7, [], [], false⟩,
  ⟨some 25, .op (.bin .gtr (.t 24) (.c (.int .u8 126))), some (21, false), 8, [], [], false⟩,
  ⟨some 26, .op (.pick (.t 21) (.c (.bool true)) (.t 25)), none, 9, [], [], false⟩])
  (.cond (.t 26)
  (.seq (.seqr [
   ⟨some 2, .op (.mov (.c (.bool false))), none, 0, [], [], false⟩])
   (.ret))
  (.skip))))
  (.seqr [
  ⟨some 15, .op (.mov (.t 3)), none, 0, [], [], false⟩,
  ⟨some 16, .op (.bin .add (.t 15) (.c (.int .i64 1))), none, 1, [], [], false⟩,
  ⟨some 3, .op (.mov (.t 16)), none, 2, [], [], false⟩]))
def d_ref19_Name : DFun := ⟨27, [true], [.tmp 2],
 .seq (.seqr [
  ⟨some 2, .op (.mov (.c (.bool false))), none, 0, [], [], false⟩])
  (.seq (.seq (.seqr [
  ⟨some 4, .op (.mov (.t 0)), none, 0, [], [], false⟩,
  ⟨some 5, .op (.bin .eql (.t 4) (.c (.str []))), none, 1, [], [], false⟩,
  ⟨some 6, .op (.mov (.t 5)), none, 2, [], [], false⟩,
  ⟨some 7, .op (.mov (.t 0)), some (6, false), 3, [], [], false⟩,
  ⟨some 8, .op (.lenS (.t 7)), some (6, false), 4, [], [], false⟩,
  ⟨some 9, .op (.bin .gtr (.t 8) (.c (.int .i64 32))), some (6, false), 5, [], [], false⟩,
  ⟨some 10, .op (.pick (.t 6) (.c (.bool true)) (.t 9)), none, 6, [], [], false⟩])
  (.cond (.t 10)
  (.seq (.seqr [
   ⟨some 2, .op (.mov (.c (.bool false))), none, 0, [], [], false⟩])
   (.ret))
  (.skip)))
  (.seq (.seq (.seqr [
  ⟨some 3, .op (.mov (.c (.int .i64 0))), none, 0, [], [], false⟩])
  (.block 0 (.loop [0, 3] l_ref19_Name_0)))
  (.seq (.seqr [
  ⟨some 2, .op (.mov (.c (.bool true))), none, 0, [], [], false⟩])
  (.ret))))⟩
/-! seneschal/seneschalref19.time -/
def d_ref19_time : DFun := ⟨9, [true], [.tmp 2],
 .seq (.seqr [
  ⟨some 2, .op (.mov (.c (.bool false))), none, 0, [], [], false⟩])
  (.seq (.seqr [
  ⟨some 3, .op (.mov (.t 0)), none, 0, [], [], false⟩,
  ⟨some 4, .op (.bin .geq (.t 3) (.c (.int .i64 0))), none, 1, [], [], false⟩,
  ⟨some 5, .op (.mov (.t 4)), none, 2, [], [], false⟩,
  ⟨some 6, .op (.mov (.t 0)), some (5, true), 3, [], [], false⟩,
  ⟨some 7, .op (.bin .leq (.t 6) (.c (.int .i64 1099511627776))), some (5, true), 4, [], [], false⟩,
  ⟨some 8, .op (.pick (.t 5) (.t 7) (.c (.bool false))), none, 5, [], [], false⟩,
  ⟨some 2, .op (.mov (.t 8)), none, 6, [], [], false⟩])
  (.ret))⟩
/-! (*seneschal/seneschalref19.Book).Find -/
def l_ref19_Book_Find_0 : DCode := .seq (.seq (.seqr [
  ⟨some 8, .op (.mov (.t 6)), none, 0, [], [], false⟩,
  ⟨some 9, .op (.mov (.t 0)), none, 1, [], [], false⟩,
  ⟨some 10, .op (.nilchk (.t 9)), none, 2, [], [], false⟩,
  ⟨some 11, .op (.faddr 0 (.t 10)), none, 3, [], [], false⟩,
  ⟨some 12, .op (.load 1 false (.t 11)), none, 4, [], [], false⟩,
  ⟨some 13, .op (.lenL (.t 12)), none, 5, [], [], false⟩,
  ⟨some 14, .op (.bin .lss (.t 8) (.t 13)), none, 6, [], [], false⟩])
  (.cond (.t 14)
  (.skip)
  (.exit 0)))
  (.seq (.block 1 (.seq (.seqr [
  ⟨some 17, .op (.mov (.t 0)), none, 0, [], [], false⟩,
  ⟨some 18, .op (.nilchk (.t 17)), none, 1, [], [], false⟩,
  ⟨some 19, .op (.faddr 0 (.t 18)), none, 2, [], [], false⟩,
  ⟨some 20, .op (.load 1 false (.t 19)), none, 3, [], [], false⟩,
  ⟨some 21, .op (.mov (.t 6)), none, 4, [], [], false⟩,
  ⟨some 22, .op (.iaddr none 5 (.t 20) (.t 21)), none, 5, [], [], false⟩,
  ⟨some 23, .op (.faddr 0 (.t 22)), none, 6, [], [], false⟩,
  ⟨some 24, .op (.load 1 false (.t 23)), none, 7, [], [], false⟩,
  ⟨some 25, .op (.mov (.t 1)), none, 8, [], [], false⟩,
  ⟨some 26, .op (.bin .eql (.t 24) (.t 25)), none, 9, [], [], false⟩])
  (.cond (.t 26)
  (.seq (.seqr [
   ⟨some 27, .op (.mov (.t 0)), none, 0, [], [], false⟩,
   ⟨some 28, .op (.nilchk (.t 27)), none, 1, [], [], false⟩,
   ⟨some 29, .op (.faddr 0 (.t 28)), none, 2, [], [], false⟩,
   ⟨some 30, .op (.load 1 false (.t 29)), none, 3, [], [], false⟩,
   ⟨some 31, .op (.mov (.t 6)), none, 4, [], [], false⟩,
   ⟨some 32, .op (.iaddr none 5 (.t 30) (.t 31)), none, 5, [], [], false⟩,
   ⟨some 33, .op (.load 5 true (.t 32)), none, 6, [], [], false⟩,
   ⟨some 7, .op (.alloc (.box [(.str []), .nils, (.int .i64 0), (.int .i64 0), (.int .i64 0)])), none, 7, [], [], false⟩,
   ⟨none, .op (.store 5 (.t 7) (.t 33)), none, 8, [], [], false⟩])
   (.seq (.seqr [
   ⟨some 34, .op (.faddr 1 (.t 7)), none, 0, [], [], false⟩,
   ⟨some 35, .op (.load 1 false (.t 34)), none, 1, [], [], false⟩,
   ⟨some 36, .call n_base_Bytes [(.t 35)], none, 2, [], [], false⟩,
   ⟨some 37, .op (.faddr 1 (.t 7)), none, 3, [], [], false⟩,
   ⟨none, .op (.store 1 (.t 37) (.t 36)), none, 4, [], [], false⟩])
   (.seq (.seqr [
   ⟨some 38, .op (.load 5 true (.t 7)), none, 0, [], [], false⟩,
   ⟨none, .op (.store 5 (.t 4) (.t 38)), none, 1, [], [], false⟩,
   ⟨some 5, .op (.mov (.c (.int .i64 0))), none, 2, [], [], false⟩])
   (.ret))))
  (.skip))))
  (.seqr [
  ⟨some 15, .op (.mov (.t 6)), none, 0, [], [], false⟩,
  ⟨some 16, .op (.bin .add (.t 15) (.c (.int .i64 1))), none, 1, [], [], false⟩,
  ⟨some 6, .op (.mov (.t 16)), none, 2, [], [], false⟩]))
def d_ref19_Book_Find : DFun := ⟨40, [false, true], [.cell 4 5 true, .tmp 5],
 .seq (.seqr [
  ⟨some 4, .op (.alloc (.box [(.str []), .nils, (.int .i64 0), (.int .i64 0), (.int .i64 0)])), none, 0, [], [], false⟩,
  ⟨some 5, .op (.mov (.c (.int .i64 0))), none, 1, [], [], false⟩])
  (.seq (.seq (.seqr [
  ⟨some 6, .op (.mov (.c (.int .i64 0))), none, 0, [], [], false⟩])
  (.block 0 (.loop [0, 1, 4, 6] l_ref19_Book_Find_0)))
  (.seq (.seqr [
  ⟨some 39, .op (.build [(.str []), .nils, (.int .i64 0), (.int .i64 0), (.int .i64 0)] []), none, 0, [], [], false⟩,
  ⟨none, .op (.store 5 (.t 4) (.t 39)), none, 1, [], [], false⟩,
  ⟨some 5, .op (.mov (.c (.int .i64 5))), none, 2, [], [], false⟩])
  (.ret)))⟩
/-! seneschal/cache.right -/
def d_cache_right : DFun := ⟨9, [true], [.tmp 2],
 .seq (.seqr [
  ⟨some 2, .op (.mov (.c (.bool false))), none, 0, [], [], false⟩])
  (.seq (.seqr [
  ⟨some 3, .op (.mov (.t 0)), none, 0, [], [], false⟩,
  ⟨some 4, .op (.bin .geq (.t 3) (.c (.int .i64 1))), none, 1, [], [], false⟩,
  ⟨some 5, .op (.mov (.t 4)), none, 2, [], [], false⟩,
  ⟨some 6, .op (.mov (.t 0)), some (5, true), 3, [], [], false⟩,
  ⟨some 7, .op (.bin .leq (.t 6) (.c (.int .i64 256))), some (5, true), 4, [], [], false⟩,
  ⟨some 8, .op (.pick (.t 5) (.t 7) (.c (.bool false))), none, 5, [], [], false⟩,
  ⟨some 2, .op (.mov (.t 8)), none, 6, [], [], false⟩])
  (.ret))⟩
/-! seneschal/cache.times -/
def d_cache_times : DFun := ⟨6, [true], [.tmp 2],
 .seq (.seqr [
  ⟨some 2, .op (.mov (.c (.bool false))), none, 0, [], [], false⟩])
  (.seq (.seqr [
  ⟨some 3, .op (.mov (.t 0)), none, 0, [], [], false⟩,
  ⟨some 4, .call n_slices_ContainsFunc___int_int_ [(.t 3), (.c (.fn n_cache_times_1 []))], none, 1, [], [], false⟩,
  ⟨some 5, .op (.un .not (.t 4)), none, 2, [], [], false⟩,
  ⟨some 2, .op (.mov (.t 5)), none, 3, [], [], false⟩])
  (.ret))⟩
/-! seneschal/ticket.Read -/
def d_ticket_Read : DFun := ⟨59, [true], [.cell 2 7 true, .tmp 3],
 .seq (.seqr [
  ⟨some 2, .op (.alloc (.box [(.str []), (.str []), .nils, (.int .i64 0), (.int .i64 0), (.int .i64 0), (.int .i64 0)])), none, 0, [], [], false⟩,
  ⟨some 3, .op (.mov (.c (.int .i64 0))), none, 1, [], [], false⟩])
  (.seq (.seqr [
  ⟨some 10, .op (.mov (.t 0)), none, 0, [], [], false⟩,
  ⟨some 11, .call n_ticket_fields [(.t 10), (.c (.int .i64 6))], none, 1, [], [], false⟩,
  ⟨some 9, .op (.mov (.t 11)), none, 2, [], [], false⟩,
  ⟨some 12, .op (.ext 0 (.t 9)), none, 3, [], [], false⟩,
  ⟨some 13, .op (.ext 1 (.t 9)), none, 4, [], [], false⟩,
  ⟨some 4, .op (.mov (.t 12)), none, 5, [], [], false⟩,
  ⟨some 5, .op (.mov (.t 13)), none, 6, [], [], false⟩])
  (.seq (.seq (.seqr [
  ⟨some 14, .op (.mov (.t 5)), none, 0, [], [], false⟩,
  ⟨some 15, .op (.eqv 3 true true [t_api_Errno, t_reflectlite_flag, t_abi_Kind] (.t 14) (.c .nili)), none, 1, [], [], false⟩])
  (.cond (.t 15)
  (.seq (.seqr [
   ⟨some 16, .op (.build [(.str []), (.str []), .nils, (.int .i64 0), (.int .i64 0), (.int .i64 0), (.int .i64 0)] []), none, 0, [], [], false⟩,
   ⟨some 17, .op (.mov (.t 5)), none, 1, [], [], false⟩,
   ⟨some 18, .call n_ticket_number [(.t 17)], none, 2, [], [], false⟩,
   ⟨none, .op (.store 7 (.t 2) (.t 16)), none, 3, [], [], false⟩,
   ⟨some 3, .op (.mov (.t 18)), none, 4, [], [], false⟩])
   (.ret))
  (.skip)))
  (.seq (.seqr [
  ⟨some 20, .op (.mov (.t 4)), none, 0, [], [], false⟩,
  ⟨some 21, .op (.slcL 1 (.t 20) (some (.c (.int .i64 2))) none), none, 1, [], [], false⟩,
  ⟨some 22, .call n_ticket_numbers [(.t 21)], none, 2, [], [], false⟩,
  ⟨some 19, .op (.mov (.t 22)), none, 3, [], [], false⟩,
  ⟨some 23, .op (.ext 0 (.t 19)), none, 4, [], [], false⟩,
  ⟨some 24, .op (.ext 1 (.t 19)), none, 5, [], [], false⟩,
  ⟨some 6, .op (.mov (.t 23)), none, 6, [], [], false⟩,
  ⟨some 5, .op (.mov (.t 24)), none, 7, [], [], false⟩])
  (.seq (.seq (.seqr [
  ⟨some 25, .op (.mov (.t 5)), none, 0, [], [], false⟩,
  ⟨some 26, .op (.eqv 3 true true [t_api_Errno, t_reflectlite_flag, t_abi_Kind] (.t 25) (.c .nili)), none, 1, [], [], false⟩])
  (.cond (.t 26)
  (.seq (.seqr [
   ⟨some 27, .op (.build [(.str []), (.str []), .nils, (.int .i64 0), (.int .i64 0), (.int .i64 0), (.int .i64 0)] []), none, 0, [], [], false⟩,
   ⟨some 28, .op (.mov (.t 5)), none, 1, [], [], false⟩,
   ⟨some 29, .call n_ticket_number [(.t 28)], none, 2, [], [], false⟩,
   ⟨none, .op (.store 7 (.t 2) (.t 27)), none, 3, [], [], false⟩,
   ⟨some 3, .op (.mov (.t 29)), none, 4, [], [], false⟩])
   (.ret))
  (.skip)))
  (.seq (.drwr [
  ⟨some 30, .op (.mov (.t 4)), none, 0, [], [], false⟩,
  ⟨some 31, .op (.iaddr none 1 (.t 30) (.c (.int .i64 0))), none, 1, [], [], false⟩,
  ⟨some 32, .op (.load 1 false (.t 31)), none, 2, [], [], false⟩,
  ⟨some 33, .op (.b2s (.t 32)), none, 3, [], [], false⟩,
  ⟨some 34, .op (.mov (.t 4)), none, 4, [], [], false⟩,
  ⟨some 35, .op (.iaddr none 1 (.t 34) (.c (.int .i64 1))), none, 5, [], [], false⟩,
  ⟨some 36, .op (.load 1 false (.t 35)), none, 6, [], [], false⟩,
  ⟨some 37, .op (.b2s (.t 36)), none, 7, [], [], false⟩,
  ⟨some 38, .op (.mov (.t 6)), none, 8, [], [], false⟩,
  ⟨some 39, .op (.iaddr none 1 (.t 38) (.c (.int .i64 0))), none, 9, [], [], false⟩,
  ⟨some 40, .op (.load 1 false (.t 39)), none, 10, [], [], false⟩,
  ⟨some 41, .op (.mov (.t 6)), none, 11, [], [], false⟩,
  ⟨some 42, .op (.iaddr none 1 (.t 41) (.c (.int .i64 1))), none, 12, [], [], false⟩,
  ⟨some 43, .op (.load 1 false (.t 42)), none, 13, [], [], false⟩,
  ⟨some 44, .op (.mov (.t 6)), none, 14, [], [], false⟩,
  ⟨some 45, .op (.iaddr none 1 (.t 44) (.c (.int .i64 2))), none, 15, [], [], false⟩,
  ⟨some 46, .op (.load 1 false (.t 45)), none, 16, [], [], false⟩,
  ⟨some 47, .op (.mov (.t 6)), none, 17, [], [], false⟩,
  ⟨some 48, .op (.iaddr none 1 (.t 47) (.c (.int .i64 3))), none, 18, [], [], false⟩,
  ⟨some 49, .op (.load 1 false (.t 48)), none, 19, [], [], false⟩,
  ⟨some 50, .op (.build [(.str []), (.str []), .nils, (.int .i64 0), (.int .i64 0), (.int .i64 0), (.int .i64 0)] [(0, 1, (.t 33)), (1, 1, (.t 37)), (3, 1, (.t 40)), (4, 1, (.t 43)), (5, 1, (.t 46)), (6, 1, (.t 49))]), none, 20, [], [], false⟩,
  ⟨some 7, .op (.alloc (.box [(.str []), (.str []), .nils, (.int .i64 0), (.int .i64 0), (.int .i64 0), (.int .i64 0)])), none, 21, [], [], false⟩,
  ⟨none, .op (.store 7 (.t 7) (.t 50)), none, 22, [21], [], false⟩])
  (.seq (.seq (.seqr [
  ⟨some 51, .op (.load 7 true (.t 7)), none, 0, [], [], false⟩,
  ⟨some 52, .call n_ticket_look [(.t 51)], none, 1, [], [], false⟩,
  ⟨some 8, .op (.mov (.t 52)), none, 2, [], [], false⟩])
  (.seq (.seqr [
  ⟨some 53, .op (.mov (.t 8)), none, 0, [], [], false⟩,
  ⟨some 54, .op (.eqv 3 true true [t_api_Errno, t_reflectlite_flag, t_abi_Kind] (.t 53) (.c .nili)), none, 1, [], [], false⟩])
  (.cond (.t 54)
  (.seq (.seqr [
   ⟨some 55, .op (.build [(.str []), (.str []), .nils, (.int .i64 0), (.int .i64 0), (.int .i64 0), (.int .i64 0)] []), none, 0, [], [], false⟩,
   ⟨some 56, .op (.mov (.t 8)), none, 1, [], [], false⟩,
   ⟨some 57, .call n_ticket_number [(.t 56)], none, 2, [], [], false⟩,
   ⟨none, .op (.store 7 (.t 2) (.t 55)), none, 3, [], [], false⟩,
   ⟨some 3, .op (.mov (.t 57)), none, 4, [], [], false⟩])
   (.ret))
  (.skip))))
  (.seq (.seqr [
  ⟨some 58, .op (.load 7 true (.t 7)), none, 0, [], [], false⟩,
  ⟨none, .op (.store 7 (.t 2) (.t 58)), none, 1, [], [], false⟩,
  ⟨some 3, .op (.mov (.c (.int .i64 0))), none, 2, [], [], false⟩])
  (.ret))))))))⟩
/-! seneschal/ticket.Open -/
def d_ticket_Open : DFun := ⟨64, [true, true], [.cell 4 3 true, .tmp 5],
 .seq (.seqr [
  ⟨some 4, .op (.alloc (.box [(.str []), (.int .i64 0), (.int .i64 0)])), none, 0, [], [], false⟩,
  ⟨some 5, .op (.mov (.c (.int .i64 0))), none, 1, [], [], false⟩])
  (.seq (.seqr [
  ⟨some 14, .op (.mov (.t 0)), none, 0, [], [], false⟩,
  ⟨some 15, .op (.mov (.t 1)), none, 1, [], [], false⟩,
  ⟨some 16, .call n_seal_Open [(.t 14), (.c (.int .i64 11)), (.t 15)], none, 2, [], [], false⟩,
  ⟨some 13, .op (.mov (.t 16)), none, 3, [], [], false⟩,
  ⟨some 17, .op (.ext 0 (.t 13)), none, 4, [], [], false⟩,
  ⟨some 18, .op (.ext 1 (.t 13)), none, 5, [], [], false⟩,
  ⟨some 6, .op (.mov (.t 17)), none, 6, [], [], false⟩,
  ⟨some 7, .op (.mov (.t 18)), none, 7, [], [], false⟩])
  (.seq (.seq (.seqr [
  ⟨some 19, .op (.mov (.t 7)), none, 0, [], [], false⟩,
  ⟨some 20, .op (.bin .neq (.t 19) (.c (.int .i64 0))), none, 1, [], [], false⟩])
  (.cond (.t 20)
  (.seq (.seqr [
   ⟨some 21, .op (.build [(.str []), (.int .i64 0), (.int .i64 0)] []), none, 0, [], [], false⟩,
   ⟨some 22, .op (.mov (.t 7)), none, 1, [], [], false⟩,
   ⟨none, .op (.store 3 (.t 4) (.t 21)), none, 2, [], [], false⟩,
   ⟨some 5, .op (.mov (.t 22)), none, 3, [], [], false⟩])
   (.ret))
  (.skip)))
  (.seq (.seqr [
  ⟨some 24, .op (.mov (.t 6)), none, 0, [], [], false⟩,
  ⟨some 25, .call n_ticket_fields [(.t 24), (.c (.int .i64 3))], none, 1, [], [], false⟩,
  ⟨some 23, .op (.mov (.t 25)), none, 2, [], [], false⟩,
  ⟨some 26, .op (.ext 0 (.t 23)), none, 3, [], [], false⟩,
  ⟨some 27, .op (.ext 1 (.t 23)), none, 4, [], [], false⟩,
  ⟨some 8, .op (.mov (.t 26)), none, 5, [], [], false⟩,
  ⟨some 9, .op (.mov (.t 27)), none, 6, [], [], false⟩])
  (.seq (.seq (.seqr [
  ⟨some 28, .op (.mov (.t 9)), none, 0, [], [], false⟩,
  ⟨some 29, .op (.eqv 3 true true [t_api_Errno, t_reflectlite_flag, t_abi_Kind] (.t 28) (.c .nili)), none, 1, [], [], false⟩])
  (.cond (.t 29)
  (.seq (.seqr [
   ⟨some 30, .op (.build [(.str []), (.int .i64 0), (.int .i64 0)] []), none, 0, [], [], false⟩,
   ⟨some 31, .op (.mov (.t 9)), none, 1, [], [], false⟩,
   ⟨some 32, .call n_ticket_number [(.t 31)], none, 2, [], [], false⟩,
   ⟨none, .op (.store 3 (.t 4) (.t 30)), none, 3, [], [], false⟩,
   ⟨some 5, .op (.mov (.t 32)), none, 4, [], [], false⟩])
   (.ret))
  (.skip)))
  (.seq (.seqr [
  ⟨some 34, .op (.mov (.t 8)), none, 0, [], [], false⟩,
  ⟨some 35, .op (.slcL 1 (.t 34) (some (.c (.int .i64 1))) none), none, 1, [], [], false⟩,
  ⟨some 36, .call n_ticket_numbers [(.t 35)], none, 2, [], [], false⟩,
  ⟨some 33, .op (.mov (.t 36)), none, 3, [], [], false⟩,
  ⟨some 37, .op (.ext 0 (.t 33)), none, 4, [], [], false⟩,
  ⟨some 38, .op (.ext 1 (.t 33)), none, 5, [], [], false⟩,
  ⟨some 10, .op (.mov (.t 37)), none, 6, [], [], false⟩,
  ⟨some 9, .op (.mov (.t 38)), none, 7, [], [], false⟩])
  (.seq (.seq (.seqr [
  ⟨some 39, .op (.mov (.t 9)), none, 0, [], [], false⟩,
  ⟨some 40, .op (.eqv 3 true true [t_api_Errno, t_reflectlite_flag, t_abi_Kind] (.t 39) (.c .nili)), none, 1, [], [], false⟩])
  (.cond (.t 40)
  (.seq (.seqr [
   ⟨some 41, .op (.build [(.str []), (.int .i64 0), (.int .i64 0)] []), none, 0, [], [], false⟩,
   ⟨some 42, .op (.mov (.t 9)), none, 1, [], [], false⟩,
   ⟨some 43, .call n_ticket_number [(.t 42)], none, 2, [], [], false⟩,
   ⟨none, .op (.store 3 (.t 4) (.t 41)), none, 3, [], [], false⟩,
   ⟨some 5, .op (.mov (.t 43)), none, 4, [], [], false⟩])
   (.ret))
  (.skip)))
  (.seq (.drwr [
  ⟨some 44, .op (.mov (.t 8)), none, 0, [], [], false⟩,
  ⟨some 45, .op (.iaddr none 1 (.t 44) (.c (.int .i64 0))), none, 1, [], [], false⟩,
  ⟨some 46, .op (.load 1 false (.t 45)), none, 2, [], [], false⟩,
  ⟨some 47, .op (.b2s (.t 46)), none, 3, [], [], false⟩,
  ⟨some 48, .op (.mov (.t 10)), none, 4, [], [], false⟩,
  ⟨some 49, .op (.iaddr none 1 (.t 48) (.c (.int .i64 0))), none, 5, [], [], false⟩,
  ⟨some 50, .op (.load 1 false (.t 49)), none, 6, [], [], false⟩,
  ⟨some 51, .op (.mov (.t 10)), none, 7, [], [], false⟩,
  ⟨some 52, .op (.iaddr none 1 (.t 51) (.c (.int .i64 1))), none, 8, [], [], false⟩,
  ⟨some 53, .op (.load 1 false (.t 52)), none, 9, [], [], false⟩,
  ⟨some 54, .op (.build [(.str []), (.int .i64 0), (.int .i64 0)] [(0, 1, (.t 47)), (1, 1, (.t 50)), (2, 1, (.t 53))]), none, 10, [], [], false⟩,
  ⟨some 11, .op (.alloc (.box [(.str []), (.int .i64 0), (.int .i64 0)])), none, 11, [], [], false⟩,
  ⟨none, .op (.store 3 (.t 11) (.t 54)), none, 12, [11], [], false⟩])
  (.seq (.seq (.seqr [
  ⟨some 55, .op (.load 3 true (.t 11)), none, 0, [], [], false⟩,
  ⟨some 56, .call n_ticket_right [(.t 55)], none, 1, [], [], false⟩,
  ⟨some 12, .op (.mov (.t 56)), none, 2, [], [], false⟩])
  (.seq (.seqr [
  ⟨some 57, .op (.mov (.t 12)), none, 0, [], [], false⟩,
  ⟨some 58, .op (.eqv 3 true true [t_api_Errno, t_reflectlite_flag, t_abi_Kind] (.t 57) (.c .nili)), none, 1, [], [], false⟩])
  (.cond (.t 58)
  (.seq (.seqr [
   ⟨some 59, .op (.build [(.str []), (.int .i64 0), (.int .i64 0)] []), none, 0, [], [], false⟩,
   ⟨some 60, .op (.mov (.t 12)), none, 1, [], [], false⟩,
   ⟨some 61, .call n_ticket_number [(.t 60)], none, 2, [], [], false⟩,
   ⟨none, .op (.store 3 (.t 4) (.t 59)), none, 3, [], [], false⟩,
   ⟨some 5, .op (.mov (.t 61)), none, 4, [], [], false⟩])
   (.ret))
  (.skip))))
  (.seq (.seqr [
  ⟨some 62, .op (.load 3 true (.t 11)), none, 0, [], [], false⟩,
  ⟨some 63, .op (.mov (.t 7)), none, 1, [], [], false⟩,
  ⟨none, .op (.store 3 (.t 4) (.t 62)), none, 2, [], [], false⟩,
  ⟨some 5, .op (.mov (.t 63)), none, 3, [], [], false⟩])
  (.ret))))))))))⟩
/-! errors.Join -/
def l_errors_Join_0 : DCode := .seq (.seqr [
  ⟨some 12, .op (.bin .lss (.t 11) (.t 10)), none, 0, [], [], false⟩])
  (.seq (.cond (.t 12)
  (.skip)
  (.exit 0))
  (.seq (.block 1 (.seq (.seqr [
  ⟨some 13, .op (.iaddr none 1 (.t 9) (.t 11)), none, 0, [], [], false⟩,
  ⟨some 14, .op (.load 1 false (.t 13)), none, 1, [], [], false⟩,
  ⟨some 5, .op (.mov (.t 14)), none, 2, [], [], false⟩])
  (.seq (.seqr [
  ⟨some 15, .op (.mov (.t 5)), none, 0, [], [], false⟩,
  ⟨some 16, .op (.eqv 3 true true [t_api_Errno, t_reflectlite_flag, t_abi_Kind] (.t 15) (.c .nili)), none, 1, [], [], false⟩])
  (.cond (.t 16)
  (.seqr [
   ⟨some 17, .op (.mov (.t 3)), none, 0, [], [], false⟩,
   ⟨some 18, .op (.bin .add (.t 17) (.c (.int .i64 1))), none, 1, [], [], false⟩,
   ⟨some 3, .op (.mov (.t 18)), none, 2, [], [], false⟩])
  (.skip)))))
  (.seqr [
  ⟨some 19, .op (.bin .add (.t 11) (.c (.int .i64 1))), none, 0, [], [], false⟩,
  ⟨some 11, .op (.mov (.t 19)), none, 1, [], [], false⟩])))
def l_errors_Join_1 : DCode := .seq (.seqr [
  ⟨some 29, .op (.bin .lss (.t 28) (.t 27)), none, 0, [], [], false⟩])
  (.seq (.cond (.t 29)
  (.skip)
  (.exit 2))
  (.seq (.block 3 (.seq (.seqr [
  ⟨some 30, .op (.iaddr none 1 (.t 26) (.t 28)), none, 0, [], [], false⟩,
  ⟨some 31, .op (.load 1 false (.t 30)), none, 1, [], [], false⟩,
  ⟨some 8, .op (.mov (.t 31)), none, 2, [], [], false⟩])
  (.seq (.seqr [
  ⟨some 32, .op (.mov (.t 8)), none, 0, [], [], false⟩,
  ⟨some 33, .op (.eqv 3 true true [t_api_Errno, t_reflectlite_flag, t_abi_Kind] (.t 32) (.c .nili)), none, 1, [], [], false⟩])
  (.cond (.t 33)
  (.seqr [
   ⟨some 34, .op (.mov (.t 6)), none, 0, [], [], false⟩,
   ⟨some 35, .op (.mov (.t 6)), none, 1, [], [], false⟩,
   ⟨some 36, .op (.nilchk (.t 35)), none, 2, [], [], false⟩,
   ⟨some 37, .op (.faddr 0 (.t 36)), none, 3, [], [], false⟩,
   ⟨some 38, .op (.load 1 false (.t 37)), none, 4, [], [], false⟩,
   ⟨some 39, .op (.mov (.t 8)), none, 5, [], [], false⟩,
   ⟨some 40, .op (.bsl 1 [.nili] [(0, (.t 39))]), none, 6, [], [], false⟩,
   ⟨some 41, .op (.app 1 16 (.t 38) (.t 40)), none, 7, [], [], false⟩,
   ⟨some 42, .op (.nilchk (.t 34)), none, 8, [], [], false⟩,
   ⟨some 43, .op (.faddr 0 (.t 42)), none, 9, [], [], false⟩,
   ⟨none, .op (.store 1 (.t 43) (.t 41)), none, 10, [], [], false⟩])
  (.skip)))))
  (.seqr [
  ⟨some 44, .op (.bin .add (.t 28) (.c (.int .i64 1))), none, 0, [], [], false⟩,
  ⟨some 28, .op (.mov (.t 44)), none, 1, [], [], false⟩])))
def d_errors_Join : DFun := ⟨47, [true], [.tmp 2],
 .seq (.seqr [
  ⟨some 2, .op (.mov (.c .nili)), none, 0, [], [], false⟩])
  (.seq (.seqr [
  ⟨some 3, .op (.mov (.c (.int .i64 0))), none, 0, [], [], false⟩])
  (.seq (.seq (.seqr [
  ⟨some 9, .op (.mov (.t 0)), none, 0, [], [], false⟩,
  ⟨some 10, .op (.lenL (.t 9)), none, 1, [], [], false⟩,
  ⟨some 11, .op (.mov (.c (.int .i64 0))), none, 2, [], [], false⟩])
  (.block 0 (.loop [0, 3, 9, 10, 11] l_errors_Join_0)))
  (.seq (.seq (.seqr [
  ⟨some 20, .op (.mov (.t 3)), none, 0, [], [], false⟩,
  ⟨some 21, .op (.bin .eql (.t 20) (.c (.int .i64 0))), none, 1, [], [], false⟩])
  (.cond (.t 21)
  (.seq (.seqr [
   ⟨some 2, .op (.mov (.c .nili)), none, 0, [], [], false⟩])
   (.ret))
  (.skip)))
  (.seq (.seqr [
  ⟨some 22, .op (.mov (.t 3)), none, 0, [], [], false⟩,
  ⟨some 23, .op (.mksl 1 .nili 16 (.c (.int .i64 0)) (.t 22)), none, 1, [], [], false⟩,
  ⟨some 24, .op (.build [.nils] [(0, 1, (.t 23))]), none, 2, [], [], false⟩,
  ⟨some 25, .op (.box 0 (.t 24)), none, 3, [], [], false⟩,
  ⟨some 6, .op (.mov (.t 25)), none, 4, [], [], false⟩])
  (.seq (.seq (.seqr [
  ⟨some 26, .op (.mov (.t 0)), none, 0, [], [], false⟩,
  ⟨some 27, .op (.lenL (.t 26)), none, 1, [], [], false⟩,
  ⟨some 28, .op (.mov (.c (.int .i64 0))), none, 2, [], [], false⟩])
  (.block 2 (.loop [6, 26, 27, 28] l_errors_Join_1)))
  (.seq (.seqr [
  ⟨some 45, .op (.mov (.t 6)), none, 0, [], [], false⟩,
  ⟨some 46, .op (.mki t_P_errors_joinError (.t 45)), none, 1, [], [], false⟩,
  ⟨some 2, .op (.mov (.t 46)), none, 2, [], [], false⟩])
  (.ret)))))))⟩
/-! errors.is -/
def l_errors_is_0 : DCode := .seq (.seqr [
  ⟨some 46, .op (.bin .lss (.t 45) (.t 44)), none, 0, [], [], false⟩])
  (.seq (.cond (.t 46)
  (.skip)
  (.exit 3))
  (.seq (.block 4 (.seq (.seqr [
  ⟨some 47, .op (.iaddr none 1 (.t 43) (.t 45)), none, 0, [], [], false⟩,
  ⟨some 48, .op (.load 1 false (.t 47)), none, 1, [], [], false⟩,
  ⟨some 12, .op (.mov (.t 48)), none, 2, [], [], false⟩])
  (.seq (.seqr [
  ⟨some 49, .op (.mov (.t 12)), none, 0, [], [], false⟩,
  ⟨some 50, .op (.mov (.t 1)), none, 1, [], [], false⟩,
  ⟨some 51, .op (.mov (.t 2)), none, 2, [], [], false⟩,
  ⟨some 52, .call n_errors_is [(.t 49), (.t 50), (.t 51)], none, 3, [], [], false⟩])
  (.cond (.t 52)
  (.seq (.seqr [
   ⟨some 6, .op (.mov (.c (.bool true))), none, 0, [], [], false⟩])
   (.ret))
  (.skip)))))
  (.seqr [
  ⟨some 53, .op (.bin .add (.t 45) (.c (.int .i64 1))), none, 0, [], [], false⟩,
  ⟨some 45, .op (.mov (.t 53)), none, 1, [], [], false⟩])))
def l_errors_is_1 : DCode := .block 1 (.seq (.seq (.seqr [
  ⟨some 14, .op (.mov (.t 2)), none, 0, [], [], false⟩,
  ⟨some 15, .op (.mov (.t 14)), none, 1, [], [], false⟩,
  ⟨some 16, .op (.mov (.t 0)), some (15, true), 2, [], [], false⟩,
  ⟨some 17, .op (.mov (.t 1)), some (15, true), 3, [], [], false⟩,
  ⟨some 18, .op (.eqv 3 false false [t_api_Errno, t_reflectlite_flag, t_abi_Kind] (.t 16) (.t 17)), some (15, true), 4, [], [], false⟩,
  ⟨some 19, .op (.pick (.t 15) (.t 18) (.c (.bool false))), none, 5, [], [], false⟩])
  (.cond (.t 19)
  (.seq (.seqr [
   ⟨some 6, .op (.mov (.c (.bool true))), none, 0, [], [], false⟩])
   (.ret))
  (.skip)))
  (.seq (.seq (.seqr [
  ⟨some 21, .op (.mov (.t 0)), none, 0, [], [], false⟩,
  ⟨some 22, .op (.asrt [] [t_runtime_boundsError, t_runtime_errorString, t_runtime_plainError, t_runtime_errorAddressString, t_P_runtime_TypeAssertionError, t_P_runtime_PanicNilError, t_P_abi_Type, t_maps_unhashableTypeError, t_tgs_Want, t_api_Errno, t_P_who_Book, t_P_ref19_Book, t_P_tgs_Server, t_P_ref28_Server, t_law28_Shot, t_P_cache_Replay, t_who_Person, t_P_ref21_Replay, t_ticket_bad, t_seal_pair, t_P_wire_fault, t_P_errors_joinError, t_struct___P_abi_Type__, t_reflectlite_rtype, t_P_reflectlite_ValueError, t_seal_refusal, t_reflectlite_flag, t_struct___typ__P_abi_Type__ptr_unsafe_Pointer__reflectlite_flag__, t_reflectlite_Value, t_abi_Kind, t_P_aes_block, t_P_abi_UncommonType] false .nili true (.t 21)), none, 1, [], [], false⟩,
  ⟨some 20, .op (.mov (.t 22)), none, 2, [], [], false⟩,
  ⟨some 23, .op (.ext 0 (.t 20)), none, 3, [], [], false⟩,
  ⟨some 24, .op (.ext 1 (.t 20)), none, 4, [], [], false⟩,
  ⟨some 7, .op (.mov (.t 23)), none, 5, [], [], false⟩,
  ⟨some 8, .op (.mov (.t 24)), none, 6, [], [], false⟩])
  (.seq (.seqr [
  ⟨some 25, .op (.mov (.t 8)), none, 0, [], [], false⟩,
  ⟨some 26, .op (.mov (.t 25)), none, 1, [], [], false⟩,
  ⟨some 27, .op (.mov (.t 7)), some (26, true), 2, [], [], false⟩,
  ⟨some 28, .op (.mov (.t 1)), some (26, true), 3, [], [], false⟩,
  ⟨some 29, .inv [] (.t 27) [(.t 28)], some (26, true), 4, [], [], false⟩,
  ⟨some 30, .op (.pick (.t 26) (.t 29) (.c (.bool false))), none, 5, [], [], false⟩])
  (.cond (.t 30)
  (.seq (.seqr [
   ⟨some 6, .op (.mov (.c (.bool true))), none, 0, [], [], false⟩])
   (.ret))
  (.skip))))
  (.seq (.seqr [
  ⟨some 31, .op (.mov (.t 0)), none, 0, [], [], false⟩])
  (.block 2 (.seq (.seqr [
  ⟨some 32, .op (.asrt [t_ticket_bad, t_seal_refusal] [t_runtime_boundsError, t_runtime_errorString, t_runtime_plainError, t_runtime_errorAddressString, t_P_runtime_TypeAssertionError, t_P_runtime_PanicNilError, t_P_abi_Type, t_maps_unhashableTypeError, t_tgs_Want, t_api_Errno, t_P_who_Book, t_P_ref19_Book, t_P_tgs_Server, t_P_ref28_Server, t_law28_Shot, t_P_cache_Replay, t_who_Person, t_P_ref21_Replay, t_seal_pair, t_P_wire_fault, t_P_errors_joinError, t_struct___P_abi_Type__, t_reflectlite_rtype, t_P_reflectlite_ValueError, t_reflectlite_flag, t_struct___typ__P_abi_Type__ptr_unsafe_Pointer__reflectlite_flag__, t_reflectlite_Value, t_abi_Kind, t_P_aes_block, t_P_abi_UncommonType] false .nili true (.t 31)), none, 0, [], [], false⟩,
  ⟨some 33, .op (.ext 1 (.t 32)), none, 1, [], [], false⟩,
  ⟨some 34, .op (.ext 0 (.t 32)), none, 2, [], [], false⟩])
  (.cond (.t 33)
  (.seq (.seqr [
   ⟨some 9, .op (.mov (.t 34)), none, 0, [], [], false⟩])
   (.seq (.seqr [
   ⟨some 35, .op (.mov (.t 9)), none, 0, [], [], false⟩,
   ⟨some 36, .inv [(t_ticket_bad, n_ticket_bad_Unwrap), (t_P_errors_joinError, n_errors_joinError_Unwrap), (t_seal_refusal, n_seal_refusal_Unwrap)] (.t 35) [], none, 1, [], [], false⟩,
   ⟨some 0, .op (.mov (.t 36)), none, 2, [], [], false⟩])
   (.seq (.seqr [
   ⟨some 37, .op (.mov (.t 0)), none, 0, [], [], false⟩,
   ⟨some 38, .op (.eqv 3 false true [t_api_Errno, t_reflectlite_flag, t_abi_Kind] (.t 37) (.c .nili)), none, 1, [], [], false⟩])
   (.cond (.t 38)
   (.seq (.seqr [
    ⟨some 6, .op (.mov (.c (.bool false))), none, 0, [], [], false⟩])
    (.ret))
   (.skip)))))
  (.seq (.seqr [
   ⟨some 39, .op (.asrt [t_P_errors_joinError] [t_runtime_boundsError, t_runtime_errorString, t_runtime_plainError, t_runtime_errorAddressString, t_P_runtime_TypeAssertionError, t_P_runtime_PanicNilError, t_P_abi_Type, t_maps_unhashableTypeError, t_tgs_Want, t_api_Errno, t_P_who_Book, t_P_ref19_Book, t_P_tgs_Server, t_P_ref28_Server, t_law28_Shot, t_P_cache_Replay, t_who_Person, t_P_ref21_Replay, t_ticket_bad, t_seal_pair, t_P_wire_fault, t_struct___P_abi_Type__, t_reflectlite_rtype, t_P_reflectlite_ValueError, t_seal_refusal, t_reflectlite_flag, t_struct___typ__P_abi_Type__ptr_unsafe_Pointer__reflectlite_flag__, t_reflectlite_Value, t_abi_Kind, t_P_aes_block, t_P_abi_UncommonType] false .nili true (.t 31)), none, 0, [], [], false⟩,
   ⟨some 40, .op (.ext 1 (.t 39)), none, 1, [], [], false⟩,
   ⟨some 41, .op (.ext 0 (.t 39)), none, 2, [], [], false⟩])
   (.cond (.t 40)
   (.seq (.seqr [
    ⟨some 10, .op (.mov (.t 41)), none, 0, [], [], false⟩])
    (.seq (.seq (.seqr [
    ⟨some 42, .op (.mov (.t 10)), none, 0, [], [], false⟩,
    ⟨some 43, .inv [(t_ticket_bad, n_ticket_bad_Unwrap), (t_P_errors_joinError, n_errors_joinError_Unwrap), (t_seal_refusal, n_seal_refusal_Unwrap)] (.t 42) [], none, 1, [], [], false⟩,
    ⟨some 44, .op (.lenL (.t 43)), none, 2, [], [], false⟩,
    ⟨some 45, .op (.mov (.c (.int .i64 0))), none, 3, [], [], false⟩])
    (.block 3 (.loop [1, 2, 43, 44, 45] l_errors_is_0)))
    (.seq (.seqr [
    ⟨some 6, .op (.mov (.c (.bool false))), none, 0, [], [], false⟩])
    (.ret))))
   (.seq (.seqr [
    ⟨some 13, .op (.mov (.t 31)), none, 0, [], [], false⟩])
    (.seq (.seqr [
    ⟨some 6, .op (.mov (.c (.bool false))), none, 0, [], [], false⟩])
    (.ret)))))))))))
def d_errors_is : DFun := ⟨54, [true, true, true], [.tmp 6],
 .seq (.seqr [
  ⟨some 6, .op (.mov (.c (.bool false))), none, 0, [], [], false⟩])
  (.block 0 (.loop [0, 1, 2] l_errors_is_1))⟩
/-! seneschal/ticket.Judge -/
def d_ticket_Judge : DFun := ⟨46, [true, true, true, true, true], [.tmp 10],
 .seq (.seqr [
  ⟨some 5, .op (.box 0 (.t 0)), none, 0, [], [], false⟩,
  ⟨some 6, .op (.box 0 (.t 1)), none, 1, [], [], false⟩,
  ⟨some 10, .op (.mov (.c (.int .i64 0))), none, 2, [], [], false⟩])
  (.seq (.block 0 (.seq (.block 6 (.seq (.block 5 (.seq (.block 4 (.block 3 (.seq (.block 2 (.seq (.block 1 (.seq (.seq (.seq (.seqr [
  ⟨some 12, .op (.faddr 1 (.t 5)), none, 0, [], [], false⟩,
  ⟨some 13, .op (.load 1 false (.t 12)), none, 1, [], [], false⟩,
  ⟨some 14, .op (.mov (.t 2)), none, 2, [], [], false⟩,
  ⟨some 15, .op (.bin .neq (.t 13) (.t 14)), none, 3, [], [], false⟩,
  ⟨some 11, .op (.mov (.t 15)), none, 4, [], [], false⟩])
  (.cond (.t 11)
  (.exit 1)
  (.skip)))
  (.seq (.seq (.seqr [
  ⟨some 17, .op (.faddr 0 (.t 5)), none, 0, [], [], false⟩,
  ⟨some 18, .op (.load 1 false (.t 17)), none, 1, [], [], false⟩,
  ⟨some 19, .op (.faddr 0 (.t 6)), none, 2, [], [], false⟩,
  ⟨some 20, .op (.load 1 false (.t 19)), none, 3, [], [], false⟩,
  ⟨some 21, .op (.bin .neq (.t 18) (.t 20)), none, 4, [], [], false⟩,
  ⟨some 16, .op (.mov (.t 21)), none, 5, [], [], false⟩])
  (.cond (.t 16)
  (.exit 2)
  (.skip)))
  (.seq (.seq (.seqr [
  ⟨some 23, .op (.faddr 1 (.t 6)), none, 0, [], [], false⟩,
  ⟨some 24, .op (.load 1 false (.t 23)), none, 1, [], [], false⟩,
  ⟨some 25, .op (.mov (.t 3)), none, 2, [], [], false⟩,
  ⟨some 26, .op (.mov (.t 4)), none, 3, [], [], false⟩,
  ⟨some 27, .call n_ticket_late [(.t 24), (.t 25), (.t 26)], none, 4, [], [], false⟩,
  ⟨some 22, .op (.mov (.t 27)), none, 5, [], [], false⟩])
  (.cond (.t 22)
  (.exit 3)
  (.skip)))
  (.seq (.seq (.seqr [
  ⟨some 29, .op (.mov (.t 3)), none, 0, [], [], false⟩,
  ⟨some 30, .op (.faddr 1 (.t 6)), none, 1, [], [], false⟩,
  ⟨some 31, .op (.load 1 false (.t 30)), none, 2, [], [], false⟩,
  ⟨some 32, .op (.mov (.t 4)), none, 3, [], [], false⟩,
  ⟨some 33, .call n_ticket_late [(.t 29), (.t 31), (.t 32)], none, 4, [], [], false⟩,
  ⟨some 28, .op (.mov (.t 33)), none, 5, [], [], false⟩])
  (.cond (.t 28)
  (.exit 4)
  (.skip)))
  (.seq (.seq (.seqr [
  ⟨some 35, .op (.mov (.t 3)), none, 0, [], [], false⟩,
  ⟨some 36, .op (.faddr 3 (.t 5)), none, 1, [], [], false⟩,
  ⟨some 37, .op (.load 1 false (.t 36)), none, 2, [], [], false⟩,
  ⟨some 38, .op (.mov (.t 4)), none, 3, [], [], false⟩,
  ⟨some 39, .call n_ticket_late [(.t 35), (.t 37), (.t 38)], none, 4, [], [], false⟩,
  ⟨some 34, .op (.mov (.t 39)), none, 5, [], [], false⟩])
  (.cond (.t 34)
  (.exit 5)
  (.skip)))
  (.seq (.seqr [
  ⟨some 41, .op (.faddr 4 (.t 5)), none, 0, [], [], false⟩,
  ⟨some 42, .op (.load 1 false (.t 41)), none, 1, [], [], false⟩,
  ⟨some 43, .op (.mov (.t 3)), none, 2, [], [], false⟩,
  ⟨some 44, .op (.mov (.t 4)), none, 3, [], [], false⟩,
  ⟨some 45, .call n_ticket_late [(.t 42), (.t 43), (.t 44)], none, 4, [], [], false⟩,
  ⟨some 40, .op (.mov (.t 45)), none, 5, [], [], false⟩])
  (.cond (.t 40)
  (.exit 6)
  (.skip))))))))
  (.exit 0)))
  (.seq (.seq (.seqr [
  ⟨some 10, .op (.mov (.c (.int .i64 35))), none, 0, [], [], false⟩])
  (.ret))
  (.exit 0))))
  (.seq (.seq (.seqr [
  ⟨some 10, .op (.mov (.c (.int .i64 36))), none, 0, [], [], false⟩])
  (.ret))
  (.exit 0)))))
  (.seq (.seq (.seqr [
  ⟨some 10, .op (.mov (.c (.int .i64 37))), none, 0, [], [], false⟩])
  (.ret))
  (.exit 0))))
  (.seq (.seq (.seqr [
  ⟨some 10, .op (.mov (.c (.int .i64 33))), none, 0, [], [], false⟩])
  (.ret))
  (.exit 0))))
  (.seq (.seq (.seqr [
  ⟨some 10, .op (.mov (.c (.int .i64 32))), none, 0, [], [], false⟩])
  (.ret))
  (.exit 0))))
  (.seq (.seqr [
  ⟨some 10, .op (.mov (.c (.int .i64 0))), none, 0, [], [], false⟩])
  (.ret)))⟩
/-! strconv.Itoa -/
def d_strconv_Itoa_89 : DFun := ⟨5, [true], [.tmp 2],
 .seq (.seqr [
  ⟨some 2, .op (.mov (.c (.str []))), none, 0, [], [], false⟩])
  (.seq (.seqr [
  ⟨some 3, .op (.mov (.t 0)), none, 0, [], [], false⟩,
  ⟨some 4, .call n_strconv_Itoa_115 [(.t 3)], none, 1, [], [], false⟩,
  ⟨some 2, .op (.mov (.t 4)), none, 2, [], [], false⟩])
  (.ret))⟩
/-! (*seneschal/tgs.Server).fresh -/
def d_tgs_Server_fresh : DFun := ⟨67, [false, true, true, true], [.cell 8 7 true, .tmp 9],
 .seq (.seqr [
  ⟨some 5, .op (.box 0 (.t 1)), none, 0, [], [], false⟩,
  ⟨some 6, .op (.box 0 (.t 2)), none, 1, [], [], false⟩,
  ⟨some 8, .op (.alloc (.box [(.str []), (.str []), .nils, (.int .i64 0), (.int .i64 0), (.int .i64 0), (.int .i64 0)])), none, 2, [], [], false⟩,
  ⟨some 9, .op (.mov (.c (.int .i64 0))), none, 3, [], [], false⟩])
  (.seq (.seq (.seqr [
  ⟨some 13, .op (.faddr 5 (.t 6)), none, 0, [], [], false⟩,
  ⟨some 14, .op (.load 1 false (.t 13)), none, 1, [], [], false⟩,
  ⟨some 15, .op (.faddr 6 (.t 5)), none, 2, [], [], false⟩,
  ⟨some 16, .op (.load 1 false (.t 15)), none, 3, [], [], false⟩,
  ⟨some 17, .op (.bin .andNot (.t 14) (.t 16)), none, 4, [], [], false⟩,
  ⟨some 18, .op (.bin .neq (.t 17) (.c (.int .i64 0))), none, 5, [], [], false⟩,
  ⟨some 19, .op (.mov (.t 18)), none, 6, [], [], false⟩,
  ⟨some 20, .op (.faddr 2 (.t 6)), some (19, false), 7, [], [], false⟩,
  ⟨some 21, .op (.load 1 false (.t 20)), some (19, false), 8, [], [], false⟩,
  ⟨some 22, .op (.faddr 3 (.t 6)), some (19, false), 9, [], [], false⟩,
  ⟨some 23, .op (.load 1 false (.t 22)), some (19, false), 10, [], [], false⟩,
  ⟨some 24, .op (.faddr 4 (.t 6)), some (19, false), 11, [], [], false⟩,
  ⟨some 25, .op (.load 1 false (.t 24)), some (19, false), 12, [], [], false⟩,
  ⟨some 26, .op (.bsl 1 [(.int .i64 0), (.int .i64 0), (.int .i64 0)] [(0, (.t 21)), (1, (.t 23)), (2, (.t 25))]), some (19, false), 13, [], [], false⟩,
  ⟨some 27, .call n_tgs_times [(.t 26)], some (19, false), 14, [], [], false⟩,
  ⟨some 28, .op (.un .not (.t 27)), some (19, false), 15, [], [], false⟩,
  ⟨some 29, .op (.pick (.t 19) (.c (.bool true)) (.t 28)), none, 16, [], [], false⟩])
  (.cond (.t 29)
  (.seq (.seqr [
   ⟨some 30, .op (.build [(.str []), (.str []), .nils, (.int .i64 0), (.int .i64 0), (.int .i64 0), (.int .i64 0)] []), none, 0, [], [], false⟩,
   ⟨none, .op (.store 7 (.t 8) (.t 30)), none, 1, [], [], false⟩,
   ⟨some 9, .op (.mov (.c (.int .i64 12))), none, 2, [], [], false⟩])
   (.ret))
  (.skip)))
  (.seq (.drwr [
  ⟨some 32, .op (.mov (.t 0)), none, 0, [], [], false⟩,
  ⟨some 33, .op (.nilchk (.t 32)), none, 1, [], [], false⟩,
  ⟨some 34, .op (.faddr 0 (.t 33)), none, 2, [], [], false⟩,
  ⟨some 35, .op (.load 1 false (.t 34)), none, 3, [], [], false⟩,
  ⟨some 36, .op (.faddr 0 (.t 5)), none, 4, [], [], false⟩,
  ⟨some 37, .op (.load 1 false (.t 36)), none, 5, [], [], false⟩,
  ⟨some 38, .op (.faddr 1 (.t 6)), none, 6, [], [], false⟩,
  ⟨some 39, .op (.load 1 false (.t 38)), none, 7, [], [], false⟩,
  ⟨some 40, .op (.faddr 2 (.t 6)), none, 8, [], [], false⟩,
  ⟨some 41, .op (.load 1 false (.t 40)), none, 9, [], [], false⟩,
  ⟨some 42, .op (.faddr 3 (.t 6)), none, 10, [], [], false⟩,
  ⟨some 43, .op (.load 1 false (.t 42)), none, 11, [], [], false⟩,
  ⟨some 44, .op (.faddr 4 (.t 6)), none, 12, [], [], false⟩,
  ⟨some 45, .op (.load 1 false (.t 44)), none, 13, [], [], false⟩,
  ⟨some 46, .op (.faddr 5 (.t 6)), none, 14, [], [], false⟩,
  ⟨some 47, .op (.load 1 false (.t 46)), none, 15, [], [], false⟩,
  ⟨some 48, .op (.build [(.str []), (.str []), .nils, (.int .i64 0), (.int .i64 0), (.int .i64 0), (.int .i64 0)] [(0, 1, (.t 37)), (1, 1, (.t 39)), (3, 1, (.t 41)), (4, 1, (.t 43)), (5, 1, (.t 45)), (6, 1, (.t 47))]), none, 16, [], [], false⟩,
  ⟨some 49, .op (.mov (.t 3)), none, 17, [], [], false⟩,
  ⟨some 50, .call n_who_Book_Grant [(.t 35), (.t 48), (.t 49)], none, 18, [], [], false⟩,
  ⟨some 31, .op (.mov (.t 50)), none, 19, [], [], false⟩,
  ⟨some 51, .op (.ext 0 (.t 31)), none, 20, [], [], false⟩,
  ⟨some 52, .op (.ext 1 (.t 31)), none, 21, [], [], false⟩,
  ⟨some 53, .op (.ext 2 (.t 31)), none, 22, [], [], false⟩,
  ⟨some 10, .op (.alloc (.box [(.str []), (.str []), .nils, (.int .i64 0), (.int .i64 0), (.int .i64 0), (.int .i64 0)])), none, 23, [], [18], false⟩,
  ⟨none, .op (.store 7 (.t 10) (.t 51)), none, 24, [18, 23], [], false⟩,
  ⟨some 11, .op (.mov (.t 52)), none, 25, [], [], false⟩,
  ⟨some 12, .op (.mov (.t 53)), none, 26, [], [], false⟩])
  (.seq (.seq (.seqr [
  ⟨some 54, .op (.mov (.t 12)), none, 0, [], [], false⟩,
  ⟨some 55, .op (.bin .neq (.t 54) (.c (.int .i64 0))), none, 1, [], [], false⟩,
  ⟨some 56, .op (.mov (.t 55)), none, 2, [], [], false⟩,
  ⟨some 57, .op (.mov (.t 11)), some (56, false), 3, [], [], false⟩,
  ⟨some 58, .op (.bin .neq (.t 57) (.c (.int .i64 0))), some (56, false), 4, [], [], false⟩,
  ⟨some 59, .op (.pick (.t 56) (.c (.bool true)) (.t 58)), none, 5, [], [], false⟩])
  (.cond (.t 59)
  (.seq (.seqr [
   ⟨some 60, .op (.build [(.str []), (.str []), .nils, (.int .i64 0), (.int .i64 0), (.int .i64 0), (.int .i64 0)] []), none, 0, [], [], false⟩,
   ⟨some 61, .op (.mov (.t 11)), none, 1, [], [], false⟩,
   ⟨none, .op (.store 7 (.t 8) (.t 60)), none, 2, [], [], false⟩,
   ⟨some 9, .op (.mov (.t 61)), none, 3, [], [], false⟩])
   (.ret))
  (.skip)))
  (.seq (.seqr [
  ⟨some 62, .op (.load 7 true (.t 10)), none, 0, [], [], false⟩,
  ⟨some 63, .op (.load 7 true (.t 5)), none, 1, [], [], false⟩,
  ⟨some 64, .call n_tgs_trim [(.t 62), (.t 63)], none, 2, [], [], false⟩,
  ⟨some 65, .op (.ext 0 (.t 64)), none, 3, [], [], false⟩,
  ⟨some 66, .op (.ext 1 (.t 64)), none, 4, [], [], false⟩,
  ⟨none, .op (.store 7 (.t 8) (.t 65)), none, 5, [], [], false⟩,
  ⟨some 9, .op (.mov (.t 66)), none, 6, [], [], false⟩])
  (.ret)))))⟩
/-! seneschal/ticket.names -/
def l_ticket_names_0 : DCode := .seq (.seqr [
  ⟨some 8, .op (.bin .lss (.t 7) (.t 6)), none, 0, [], [], false⟩])
  (.seq (.cond (.t 8)
  (.skip)
  (.exit 0))
  (.seq (.block 1 (.seq (.seqr [
  ⟨some 9, .op (.iaddr none 1 (.t 5) (.t 7)), none, 0, [], [], false⟩,
  ⟨some 10, .op (.load 1 false (.t 9)), none, 1, [], [], false⟩,
  ⟨some 4, .op (.mov (.t 10)), none, 2, [], [], false⟩])
  (.seq (.seqr [
  ⟨some 11, .op (.mov (.t 4)), none, 0, [], [], false⟩,
  ⟨some 12, .op (.bin .eql (.t 11) (.c (.str []))), none, 1, [], [], false⟩,
  ⟨some 13, .op (.mov (.t 12)), none, 2, [], [], false⟩,
  ⟨some 14, .op (.mov (.t 4)), some (13, false), 3, [], [], false⟩,
  ⟨some 15, .op (.lenS (.t 14)), some (13, false), 4, [], [], false⟩,
  ⟨some 16, .op (.bin .gtr (.t 15) (.c (.int .i64 32))), some (13, false), 5, [], [], false⟩,
  ⟨some 17, .op (.pick (.t 13) (.c (.bool true)) (.t 16)), none, 6, [], [], false⟩])
  (.cond (.t 17)
  (.seq (.seqr [
   ⟨some 18, .op (.build [(.str [])] [(0, 1, (.c (.str [110, 97, 109, 101])))]), none, 0, [], [], false⟩,
   ⟨some 19, .op (.mki t_ticket_bad (.t 18)), none, 1, [], [], false⟩,
   ⟨some 2, .op (.mov (.t 19)), none, 2, [], [], false⟩])
   (.ret))
  (.skip)))))
  (.seqr [
  ⟨some 20, .op (.bin .add (.t 7) (.c (.int .i64 1))), none, 0, [], [], false⟩,
  ⟨some 7, .op (.mov (.t 20)), none, 1, [], [], false⟩])))
def d_ticket_names : DFun := ⟨21, [true], [.tmp 2],
 .seq (.seqr [
  ⟨some 2, .op (.mov (.c .nili)), none, 0, [], [], false⟩])
  (.seq (.seq (.seqr [
  ⟨some 5, .op (.mov (.t 0)), none, 0, [], [], false⟩,
  ⟨some 6, .op (.lenL (.t 5)), none, 1, [], [], false⟩,
  ⟨some 7, .op (.mov (.c (.int .i64 0))), none, 2, [], [], false⟩])
  (.block 0 (.loop [5, 6, 7] l_ticket_names_0)))
  (.seq (.seqr [
  ⟨some 2, .op (.mov (.c .nili)), none, 0, [], [], false⟩])
  (.ret)))⟩
/-! seneschal/ticket.times -/
def l_ticket_times_0 : DCode := .seq (.seqr [
  ⟨some 8, .op (.bin .lss (.t 7) (.t 6)), none, 0, [], [], false⟩])
  (.seq (.cond (.t 8)
  (.skip)
  (.exit 0))
  (.seq (.block 1 (.seq (.seqr [
  ⟨some 9, .op (.iaddr none 1 (.t 5) (.t 7)), none, 0, [], [], false⟩,
  ⟨some 10, .op (.load 1 false (.t 9)), none, 1, [], [], false⟩,
  ⟨some 4, .op (.mov (.t 10)), none, 2, [], [], false⟩])
  (.seq (.seqr [
  ⟨some 11, .op (.mov (.t 4)), none, 0, [], [], false⟩,
  ⟨some 12, .op (.bin .lss (.t 11) (.c (.int .i64 0))), none, 1, [], [], false⟩,
  ⟨some 13, .op (.mov (.t 12)), none, 2, [], [], false⟩,
  ⟨some 14, .op (.mov (.t 4)), some (13, false), 3, [], [], false⟩,
  ⟨some 15, .op (.bin .gtr (.t 14) (.c (.int .i64 1099511627776))), some (13, false), 4, [], [], false⟩,
  ⟨some 16, .op (.pick (.t 13) (.c (.bool true)) (.t 15)), none, 5, [], [], false⟩])
  (.cond (.t 16)
  (.seq (.seqr [
   ⟨some 17, .op (.build [(.str [])] [(0, 1, (.c (.str [116, 105, 109, 101])))]), none, 0, [], [], false⟩,
   ⟨some 18, .op (.mki t_ticket_bad (.t 17)), none, 1, [], [], false⟩,
   ⟨some 2, .op (.mov (.t 18)), none, 2, [], [], false⟩])
   (.ret))
  (.skip)))))
  (.seqr [
  ⟨some 19, .op (.bin .add (.t 7) (.c (.int .i64 1))), none, 0, [], [], false⟩,
  ⟨some 7, .op (.mov (.t 19)), none, 1, [], [], false⟩])))
def d_ticket_times : DFun := ⟨20, [true], [.tmp 2],
 .seq (.seqr [
  ⟨some 2, .op (.mov (.c .nili)), none, 0, [], [], false⟩])
  (.seq (.seq (.seqr [
  ⟨some 5, .op (.mov (.t 0)), none, 0, [], [], false⟩,
  ⟨some 6, .op (.lenL (.t 5)), none, 1, [], [], false⟩,
  ⟨some 7, .op (.mov (.c (.int .i64 0))), none, 2, [], [], false⟩])
  (.block 0 (.loop [5, 6, 7] l_ticket_times_0)))
  (.seq (.seqr [
  ⟨some 2, .op (.mov (.c .nili)), none, 0, [], [], false⟩])
  (.ret)))⟩
/-! seneschal/seal.keys -/
def d_seal_keys : DFun := ⟨53, [true, true], [.cell 4 2 true, .tmp 5],
 .seq (.seqr [
  ⟨some 4, .op (.alloc (.box [.nils, .nils])), none, 0, [], [], false⟩,
  ⟨some 5, .op (.mov (.c .nili)), none, 1, [], [], false⟩])
  (.seq (.seq (.seqr [
  ⟨some 11, .op (.mov (.t 0)), none, 0, [], [], false⟩,
  ⟨some 12, .op (.lenL (.t 11)), none, 1, [], [], false⟩,
  ⟨some 13, .op (.bin .neq (.t 12) (.c (.int .i64 16))), none, 2, [], [], false⟩,
  ⟨some 14, .op (.mov (.t 13)), none, 3, [], [], false⟩,
  ⟨some 15, .op (.mov (.t 1)), some (14, false), 4, [], [], false⟩,
  ⟨some 16, .op (.bin .lss (.t 15) (.c (.int .i64 0))), some (14, false), 5, [], [], false⟩,
  ⟨some 17, .op (.pick (.t 14) (.c (.bool true)) (.t 16)), none, 6, [], [], false⟩,
  ⟨some 18, .op (.mov (.t 17)), none, 7, [], [], false⟩,
  ⟨some 19, .op (.mov (.t 1)), some (18, false), 8, [], [], false⟩,
  ⟨some 20, .op (.bin .geq (.t 19) (.c (.int .i64 256))), some (18, false), 9, [], [], false⟩,
  ⟨some 21, .op (.pick (.t 18) (.c (.bool true)) (.t 20)), none, 10, [], [], false⟩])
  (.cond (.t 21)
  (.seq (.seqr [
   ⟨some 22, .op (.build [.nils, .nils] []), none, 0, [], [], false⟩,
   ⟨some 23, .op (.build [(.str []), (.int .i64 0)] [(0, 1, (.c (.str [107, 101, 121, 115]))), (1, 1, (.c (.int .i64 2)))]), none, 1, [], [], false⟩,
   ⟨some 24, .op (.mki t_seal_refusal (.t 23)), none, 2, [], [], false⟩,
   ⟨none, .op (.store 2 (.t 4) (.t 22)), none, 3, [], [], false⟩,
   ⟨some 5, .op (.mov (.t 24)), none, 4, [], [], false⟩])
   (.ret))
  (.skip)))
  (.seq (.seqr [
  ⟨some 25, .op (.mov (.t 1)), none, 0, [], [], false⟩,
  ⟨some 26, .call n_strconv_Itoa_89 [(.t 25)], none, 1, [], [], false⟩,
  ⟨some 6, .op (.mov (.t 26)), none, 2, [], [], false⟩])
  (.seq (.seqr [
  ⟨some 28, .op (.mov (.t 0)), none, 0, [], [], false⟩,
  ⟨some 29, .op (.mov (.t 6)), none, 1, [], [], false⟩,
  ⟨some 30, .op (.bin .add (.c (.str [101])) (.t 29)), none, 2, [], [], false⟩,
  ⟨some 31, .call n_mac_Expand [(.t 28), (.t 30), (.c (.int .i64 16))], none, 3, [], [], false⟩,
  ⟨some 27, .op (.mov (.t 31)), none, 4, [], [], false⟩,
  ⟨some 32, .op (.ext 0 (.t 27)), none, 5, [], [], false⟩,
  ⟨some 33, .op (.ext 1 (.t 27)), none, 6, [], [], false⟩,
  ⟨some 7, .op (.mov (.t 32)), none, 7, [], [], false⟩,
  ⟨some 8, .op (.mov (.t 33)), none, 8, [], [], false⟩])
  (.seq (.seqr [
  ⟨some 35, .op (.mov (.t 0)), none, 0, [], [], false⟩,
  ⟨some 36, .op (.mov (.t 6)), none, 1, [], [], false⟩,
  ⟨some 37, .op (.bin .add (.c (.str [105])) (.t 36)), none, 2, [], [], false⟩,
  ⟨some 38, .call n_mac_Expand [(.t 35), (.t 37), (.c (.int .i64 16))], none, 3, [], [], false⟩,
  ⟨some 34, .op (.mov (.t 38)), none, 4, [], [], false⟩,
  ⟨some 39, .op (.ext 0 (.t 34)), none, 5, [], [], false⟩,
  ⟨some 40, .op (.ext 1 (.t 34)), none, 6, [], [], false⟩,
  ⟨some 9, .op (.mov (.t 39)), none, 7, [], [], false⟩,
  ⟨some 10, .op (.mov (.t 40)), none, 8, [], [], false⟩])
  (.seq (.seq (.seqr [
  ⟨some 41, .op (.mov (.t 8)), none, 0, [], [], false⟩,
  ⟨some 42, .op (.bin .neq (.t 41) (.c (.int .i64 0))), none, 1, [], [], false⟩,
  ⟨some 43, .op (.mov (.t 42)), none, 2, [], [], false⟩,
  ⟨some 44, .op (.mov (.t 10)), some (43, false), 3, [], [], false⟩,
  ⟨some 45, .op (.bin .neq (.t 44) (.c (.int .i64 0))), some (43, false), 4, [], [], false⟩,
  ⟨some 46, .op (.pick (.t 43) (.c (.bool true)) (.t 45)), none, 5, [], [], false⟩])
  (.cond (.t 46)
  (.seq (.seqr [
   ⟨some 47, .op (.build [.nils, .nils] []), none, 0, [], [], false⟩,
   ⟨some 48, .op (.build [(.str []), (.int .i64 0)] [(0, 1, (.c (.str [101, 120, 112, 97, 110, 100]))), (1, 1, (.c (.int .i64 2)))]), none, 1, [], [], false⟩,
   ⟨some 49, .op (.mki t_seal_refusal (.t 48)), none, 2, [], [], false⟩,
   ⟨none, .op (.store 2 (.t 4) (.t 47)), none, 3, [], [], false⟩,
   ⟨some 5, .op (.mov (.t 49)), none, 4, [], [], false⟩])
   (.ret))
  (.skip)))
  (.seq (.seqr [
  ⟨some 50, .op (.mov (.t 7)), none, 0, [], [], false⟩,
  ⟨some 51, .op (.mov (.t 9)), none, 1, [], [], false⟩,
  ⟨some 52, .op (.build [.nils, .nils] [(0, 1, (.t 50)), (1, 1, (.t 51))]), none, 2, [], [], false⟩,
  ⟨none, .op (.store 2 (.t 4) (.t 52)), none, 3, [], [], false⟩,
  ⟨some 5, .op (.mov (.c .nili)), none, 4, [], [], false⟩])
  (.ret)))))))⟩
/-! (seneschal/seal.pair).chain -/
def l_seal_pair_chain_0 : DCode := .seq (.seq (.seqr [
  ⟨some 24, .op (.mov (.t 1)), none, 0, [], [], false⟩,
  ⟨some 25, .op (.lenL (.t 24)), none, 1, [], [], false⟩,
  ⟨some 26, .op (.bin .gtr (.t 25) (.c (.int .i64 0))), none, 2, [], [], false⟩])
  (.cond (.t 26)
  (.skip)
  (.exit 0)))
  (.seq (.block 1 (.seq (.drwr [
  ⟨some 30, .op (.faddr 0 (.t 2)), none, 0, [], [], false⟩,
  ⟨some 32, .op (.mov (.t 1)), none, 2, [], [], false⟩,
  ⟨some 33, .op (.slcL 1 (.t 32) none (some (.c (.int .i64 16)))), none, 3, [], [], false⟩,
  ⟨some 34, .op (.mov (.t 6)), none, 4, [], [], false⟩,
  ⟨some 35, .call n_seal_xor [(.t 33), (.t 34)], none, 5, [], [], false⟩,
  ⟨some 31, .op (.load 1 false (.t 30)), none, 1, [], [4], false⟩,
  ⟨some 36, .call n_aes_Encrypt [(.t 31), (.t 35)], none, 6, [4], [], false⟩,
  ⟨some 29, .op (.mov (.t 36)), none, 7, [], [], false⟩,
  ⟨some 37, .op (.ext 0 (.t 29)), none, 8, [], [], false⟩,
  ⟨some 38, .op (.ext 1 (.t 29)), none, 9, [], [], false⟩,
  ⟨some 6, .op (.mov (.t 37)), none, 10, [], [], false⟩])
  (.seqr [
  ⟨some 39, .op (.mov (.t 7)), none, 0, [], [], false⟩,
  ⟨some 40, .op (.mov (.t 6)), none, 1, [], [], false⟩,
  ⟨some 41, .op (.app 1 1 (.t 39) (.t 40)), none, 2, [], [], false⟩,
  ⟨some 7, .op (.mov (.t 41)), none, 3, [], [], false⟩])))
  (.seqr [
  ⟨some 27, .op (.mov (.t 1)), none, 0, [], [], false⟩,
  ⟨some 28, .op (.slcL 1 (.t 27) (some (.c (.int .i64 16))) none), none, 1, [], [], false⟩,
  ⟨some 1, .op (.mov (.t 28)), none, 2, [], [], false⟩]))
def d_seal_pair_chain : DFun := ⟨43, [true, true], [.tmp 4],
 .seq (.seqr [
  ⟨some 2, .op (.box 0 (.t 0)), none, 0, [], [], false⟩,
  ⟨some 4, .op (.mov (.c .nils)), none, 1, [], [], false⟩])
  (.seq (.seqr [
  ⟨some 8, .op (.mov (.t 1)), none, 0, [], [], false⟩,
  ⟨some 9, .op (.lenL (.t 8)), none, 1, [], [], false⟩,
  ⟨some 10, .op (.bin .add (.t 9) (.c (.int .i64 16))), none, 2, [], [], false⟩,
  ⟨some 11, .op (.bin .sub (.t 10) (.c (.int .i64 1))), none, 3, [], [], false⟩,
  ⟨some 12, .op (.bin .quo (.t 11) (.c (.int .i64 16))), none, 4, [], [], false⟩,
  ⟨some 13, .op (.bin .mul (.t 12) (.c (.int .i64 16))), none, 5, [], [], false⟩,
  ⟨some 5, .op (.mov (.t 13)), none, 6, [], [], false⟩])
  (.seq (.seqr [
  ⟨some 14, .op (.mov (.t 5)), none, 0, [], [], false⟩,
  ⟨some 15, .op (.mksl 1 (.int .u8 0) 1 (.c (.int .i64 0)) (.t 14)), none, 1, [], [], false⟩,
  ⟨some 16, .op (.mov (.t 1)), none, 2, [], [], false⟩,
  ⟨some 17, .op (.app 1 1 (.t 15) (.t 16)), none, 3, [], [], false⟩,
  ⟨some 18, .op (.mov (.t 5)), none, 4, [], [], false⟩,
  ⟨some 19, .op (.mov (.t 1)), none, 5, [], [], false⟩,
  ⟨some 20, .op (.lenL (.t 19)), none, 6, [], [], false⟩,
  ⟨some 21, .op (.bin .sub (.t 18) (.t 20)), none, 7, [], [], false⟩,
  ⟨some 22, .op (.appZ 1 1 (.int .u8 0) (.t 17) (.t 21)), none, 8, [], [], false⟩,
  ⟨some 1, .op (.mov (.t 22)), none, 9, [], [], false⟩])
  (.seq (.seqr [
  ⟨some 23, .op (.mksl 1 (.int .u8 0) 1 (.c (.int .i64 16)) (.c (.int .i64 16))), none, 0, [], [], false⟩,
  ⟨some 6, .op (.mov (.t 23)), none, 1, [], [], false⟩])
  (.seq (.seqr [
  ⟨some 7, .op (.mov (.c .nils)), none, 0, [], [], false⟩])
  (.seq (.block 0 (.loop [1, 2, 6, 7] l_seal_pair_chain_0))
  (.seq (.seqr [
  ⟨some 42, .op (.mov (.t 7)), none, 0, [], [], false⟩,
  ⟨some 4, .op (.mov (.t 42)), none, 1, [], [], false⟩])
  (.ret)))))))⟩
/-! seneschal/seal.swap -/
def d_seal_swap : DFun := ⟨28, [false], [],
 .seq (.seqr [
  ⟨some 4, .op (.mov (.t 0)), none, 0, [], [], false⟩,
  ⟨some 5, .op (.lenL (.t 4)), none, 1, [], [], false⟩,
  ⟨some 6, .op (.bin .sub (.t 5) (.c (.int .i64 32))), none, 2, [], [], false⟩,
  ⟨some 2, .op (.mov (.t 6)), none, 3, [], [], false⟩])
  (.seq (.seq (.seqr [
  ⟨some 7, .op (.mov (.t 2)), none, 0, [], [], false⟩,
  ⟨some 8, .op (.bin .lss (.t 7) (.c (.int .i64 0))), none, 1, [], [], false⟩])
  (.cond (.t 8)
  (.ret)
  (.skip)))
  (.seq (.seqr [
  ⟨some 9, .op (.mov (.t 0)), none, 0, [], [], false⟩,
  ⟨some 10, .op (.mov (.t 2)), none, 1, [], [], false⟩,
  ⟨some 11, .op (.slcL 1 (.t 9) (some (.t 10)) none), none, 2, [], [], false⟩,
  ⟨some 12, .op (.s2ap 16 (.t 11)), none, 3, [], [], false⟩,
  ⟨some 13, .op (.load 16 true (.t 12)), none, 4, [], [], false⟩,
  ⟨some 3, .op (.alloc (.row (bytesV (List.replicate 16 0)) 1)), none, 5, [], [], false⟩,
  ⟨none, .op (.store 16 (.t 3) (.t 13)), none, 6, [], [], false⟩])
  (.seq (.drwr [
  ⟨some 14, .op (.mov (.t 0)), none, 0, [], [], false⟩,
  ⟨some 15, .op (.mov (.t 2)), none, 1, [], [], false⟩,
  ⟨some 16, .op (.slcL 1 (.t 14) (some (.t 15)) none), none, 2, [], [], false⟩,
  ⟨some 17, .op (.mov (.t 0)), none, 3, [], [], false⟩,
  ⟨some 18, .op (.mov (.t 2)), none, 4, [], [], false⟩,
  ⟨some 19, .op (.bin .add (.t 18) (.c (.int .i64 16))), none, 5, [], [], false⟩,
  ⟨some 20, .op (.slcL 1 (.t 17) (some (.t 19)) none), none, 6, [], [], false⟩,
  ⟨some 21, .op (.cpy 1 (.t 16) (.t 20)), none, 7, [], [], false⟩])
  (.drwr [
  ⟨some 22, .op (.mov (.t 0)), none, 0, [], [], false⟩,
  ⟨some 23, .op (.mov (.t 2)), none, 1, [], [], false⟩,
  ⟨some 24, .op (.bin .add (.t 23) (.c (.int .i64 16))), none, 2, [], [], false⟩,
  ⟨some 25, .op (.slcL 1 (.t 22) (some (.t 24)) none), none, 3, [], [], false⟩,
  ⟨some 26, .op (.slcA 16 1 (.t 3) none none), none, 4, [], [], false⟩,
  ⟨some 27, .op (.cpy 1 (.t 25) (.t 26)), none, 5, [], [], false⟩]))))⟩
/-! (seneschal/seal.pair).tag -/
def d_seal_pair_tag : DFun := ⟨13, [true, true], [.tmp 4],
 .seq (.seqr [
  ⟨some 2, .op (.box 0 (.t 0)), none, 0, [], [], false⟩,
  ⟨some 4, .op (.mov (.c .nils)), none, 1, [], [], false⟩])
  (.seq (.drwr [
  ⟨some 6, .op (.faddr 1 (.t 2)), none, 0, [], [], false⟩,
  ⟨some 8, .op (.mksl 1 (.int .u8 0) 1 (.c (.int .i64 16)) (.c (.int .i64 16))), none, 2, [], [], false⟩,
  ⟨some 9, .op (.mov (.t 1)), none, 3, [], [], false⟩,
  ⟨some 10, .op (.app 1 1 (.t 8) (.t 9)), none, 4, [1], [], false⟩,
  ⟨some 7, .op (.load 1 false (.t 6)), none, 1, [], [3], false⟩,
  ⟨some 11, .call n_mac_Sum [(.t 7), (.t 10)], none, 5, [1, 3], [], false⟩,
  ⟨some 5, .op (.alloc (.row (bytesV (List.replicate 32 0)) 1)), none, 6, [], [3, 5], false⟩,
  ⟨none, .op (.store 32 (.t 5) (.t 11)), none, 7, [1, 3, 5, 6], [], false⟩])
  (.seq (.seqr [
  ⟨some 12, .op (.slcA 32 1 (.t 5) none (some (.c (.int .i64 16)))), none, 0, [], [], false⟩,
  ⟨some 4, .op (.mov (.t 12)), none, 1, [], [], false⟩])
  (.ret)))⟩
/-! slices.ContainsFunc[[]int,int] -/
def d_slices_ContainsFunc___int_int_ : DFun := ⟨9, [true, false], [.tmp 4],
 .seq (.seqr [
  ⟨some 4, .op (.mov (.c (.bool false))), none, 0, [], [], false⟩])
  (.seq (.seqr [
  ⟨some 5, .op (.mov (.t 0)), none, 0, [], [], false⟩,
  ⟨some 6, .op (.mov (.t 1)), none, 1, [], [], false⟩,
  ⟨some 7, .call n_slices_IndexFunc___int_int_ [(.t 5), (.t 6)], none, 2, [], [], false⟩,
  ⟨some 8, .op (.bin .geq (.t 7) (.c (.int .i64 0))), none, 3, [], [], false⟩,
  ⟨some 4, .op (.mov (.t 8)), none, 4, [], [], false⟩])
  (.ret))⟩
/-! seneschal/cache.times$1 -/
def d_cache_times_1 : DFun := ⟨9, [true], [.tmp 2],
 .seq (.seqr [
  ⟨some 2, .op (.mov (.c (.bool false))), none, 0, [], [], false⟩])
  (.seq (.seqr [
  ⟨some 3, .op (.mov (.t 0)), none, 0, [], [], false⟩,
  ⟨some 4, .op (.bin .lss (.t 3) (.c (.int .i64 0))), none, 1, [], [], false⟩,
  ⟨some 5, .op (.mov (.t 4)), none, 2, [], [], false⟩,
  ⟨some 6, .op (.mov (.t 0)), some (5, false), 3, [], [], false⟩,
  ⟨some 7, .op (.bin .gtr (.t 6) (.c (.int .i64 1099511627776))), some (5, false), 4, [], [], false⟩,
  ⟨some 8, .op (.pick (.t 5) (.c (.bool true)) (.t 7)), none, 5, [], [], false⟩,
  ⟨some 2, .op (.mov (.t 8)), none, 6, [], [], false⟩])
  (.ret))⟩
/-! seneschal/ticket.fields -/
def l_ticket_fields_0 : DCode := .seq (.seqr [
  ⟨some 29, .op (.bin .lss (.t 28) (.t 27)), none, 0, [], [], false⟩])
  (.seq (.cond (.t 29)
  (.skip)
  (.exit 0))
  (.seq (.block 1 (.seq (.seqr [
  ⟨some 30, .op (.mov (.t 28)), none, 0, [], [], false⟩,
  ⟨some 31, .op (.iaddr none 2 (.t 26) (.t 28)), none, 1, [], [], false⟩,
  ⟨some 32, .op (.load 2 true (.t 31)), none, 2, [], [], false⟩,
  ⟨some 10, .op (.alloc (.box [(.int .i64 0), .nils])), none, 3, [], [], false⟩,
  ⟨some 9, .op (.mov (.t 30)), none, 4, [], [], false⟩,
  ⟨none, .op (.store 2 (.t 10) (.t 32)), none, 5, [], [], false⟩])
  (.seq (.seq (.seqr [
  ⟨some 33, .op (.faddr 0 (.t 10)), none, 0, [], [], false⟩,
  ⟨some 34, .op (.load 1 false (.t 33)), none, 1, [], [], false⟩,
  ⟨some 35, .op (.mov (.t 9)), none, 2, [], [], false⟩,
  ⟨some 36, .op (.bin .add (.t 35) (.c (.int .i64 1))), none, 3, [], [], false⟩,
  ⟨some 37, .op (.bin .neq (.t 34) (.t 36)), none, 4, [], [], false⟩])
  (.cond (.t 37)
  (.seq (.seqr [
   ⟨some 38, .op (.build [(.str [])] [(0, 1, (.c (.str [116, 97, 103])))]), none, 0, [], [], false⟩,
   ⟨some 39, .op (.mki t_ticket_bad (.t 38)), none, 1, [], [], false⟩,
   ⟨some 4, .op (.mov (.c .nils)), none, 2, [], [], false⟩,
   ⟨some 5, .op (.mov (.t 39)), none, 3, [], [], false⟩])
   (.ret))
  (.skip)))
  (.seqr [
  ⟨some 40, .op (.mov (.t 8)), none, 0, [], [], false⟩,
  ⟨some 41, .op (.faddr 1 (.t 10)), none, 1, [], [], false⟩,
  ⟨some 42, .op (.load 1 false (.t 41)), none, 2, [], [], false⟩,
  ⟨some 43, .op (.bsl 1 [.nils] [(0, (.t 42))]), none, 3, [], [], false⟩,
  ⟨some 44, .op (.app 1 24 (.t 40) (.t 43)), none, 4, [], [], false⟩,
  ⟨some 8, .op (.mov (.t 44)), none, 5, [], [], false⟩]))))
  (.seqr [
  ⟨some 45, .op (.bin .add (.t 28) (.c (.int .i64 1))), none, 0, [], [], false⟩,
  ⟨some 28, .op (.mov (.t 45)), none, 1, [], [], false⟩])))
def d_ticket_fields : DFun := ⟨47, [true, true], [.tmp 4, .tmp 5],
 .seq (.seqr [
  ⟨some 4, .op (.mov (.c .nils)), none, 0, [], [], false⟩,
  ⟨some 5, .op (.mov (.c .nili)), none, 1, [], [], false⟩])
  (.seq (.seqr [
  ⟨some 12, .op (.mov (.t 0)), none, 0, [], [], false⟩,
  ⟨some 13, .call n_wire_Read [(.t 12)], none, 1, [], [], false⟩,
  ⟨some 11, .op (.mov (.t 13)), none, 2, [], [], false⟩,
  ⟨some 14, .op (.ext 0 (.t 11)), none, 3, [], [], false⟩,
  ⟨some 15, .op (.ext 1 (.t 11)), none, 4, [], [], false⟩,
  ⟨some 6, .op (.mov (.t 14)), none, 5, [], [], false⟩,
  ⟨some 7, .op (.mov (.t 15)), none, 6, [], [], false⟩])
  (.seq (.seq (.seqr [
  ⟨some 16, .op (.mov (.t 7)), none, 0, [], [], false⟩,
  ⟨some 17, .op (.bin .neq (.t 16) (.c (.int .i64 0))), none, 1, [], [], false⟩,
  ⟨some 18, .op (.mov (.t 17)), none, 2, [], [], false⟩,
  ⟨some 19, .op (.mov (.t 6)), some (18, false), 3, [], [], false⟩,
  ⟨some 20, .op (.lenL (.t 19)), some (18, false), 4, [], [], false⟩,
  ⟨some 21, .op (.mov (.t 1)), some (18, false), 5, [], [], false⟩,
  ⟨some 22, .op (.bin .neq (.t 20) (.t 21)), some (18, false), 6, [], [], false⟩,
  ⟨some 23, .op (.pick (.t 18) (.c (.bool true)) (.t 22)), none, 7, [], [], false⟩])
  (.cond (.t 23)
  (.seq (.seqr [
   ⟨some 24, .op (.build [(.str [])] [(0, 1, (.c (.str [118, 97, 108, 117, 101])))]), none, 0, [], [], false⟩,
   ⟨some 25, .op (.mki t_ticket_bad (.t 24)), none, 1, [], [], false⟩,
   ⟨some 4, .op (.mov (.c .nils)), none, 2, [], [], false⟩,
   ⟨some 5, .op (.mov (.t 25)), none, 3, [], [], false⟩])
   (.ret))
  (.skip)))
  (.seq (.seqr [
  ⟨some 8, .op (.mov (.c .nils)), none, 0, [], [], false⟩])
  (.seq (.seq (.seqr [
  ⟨some 26, .op (.mov (.t 6)), none, 0, [], [], false⟩,
  ⟨some 27, .op (.lenL (.t 26)), none, 1, [], [], false⟩,
  ⟨some 28, .op (.mov (.c (.int .i64 0))), none, 2, [], [], false⟩])
  (.block 0 (.loop [8, 26, 27, 28] l_ticket_fields_0)))
  (.seq (.seqr [
  ⟨some 46, .op (.mov (.t 8)), none, 0, [], [], false⟩,
  ⟨some 4, .op (.mov (.t 46)), none, 1, [], [], false⟩,
  ⟨some 5, .op (.mov (.c .nili)), none, 2, [], [], false⟩])
  (.ret))))))⟩
/-! seneschal/ticket.numbers -/
def l_ticket_numbers_0 : DCode := .seq (.seqr [
  ⟨some 12, .op (.bin .lss (.t 11) (.t 10)), none, 0, [], [], false⟩])
  (.seq (.cond (.t 12)
  (.skip)
  (.exit 0))
  (.seq (.block 1 (.seq (.seqr [
  ⟨some 13, .op (.iaddr none 1 (.t 9) (.t 11)), none, 0, [], [], false⟩,
  ⟨some 14, .op (.load 1 false (.t 13)), none, 1, [], [], false⟩,
  ⟨some 6, .op (.mov (.t 14)), none, 2, [], [], false⟩])
  (.seq (.seqr [
  ⟨some 16, .op (.mov (.t 6)), none, 0, [], [], false⟩,
  ⟨some 17, .call n_wire_ReadInt [(.t 16)], none, 1, [], [], false⟩,
  ⟨some 15, .op (.mov (.t 17)), none, 2, [], [], false⟩,
  ⟨some 18, .op (.ext 0 (.t 15)), none, 3, [], [], false⟩,
  ⟨some 19, .op (.ext 1 (.t 15)), none, 4, [], [], false⟩,
  ⟨some 7, .op (.mov (.t 18)), none, 5, [], [], false⟩,
  ⟨some 8, .op (.mov (.t 19)), none, 6, [], [], false⟩])
  (.seq (.seq (.seqr [
  ⟨some 20, .op (.mov (.t 8)), none, 0, [], [], false⟩,
  ⟨some 21, .op (.bin .neq (.t 20) (.c (.int .i64 0))), none, 1, [], [], false⟩])
  (.cond (.t 21)
  (.seq (.seqr [
   ⟨some 22, .op (.build [(.str [])] [(0, 1, (.c (.str [110, 117, 109, 98, 101, 114])))]), none, 0, [], [], false⟩,
   ⟨some 23, .op (.mki t_ticket_bad (.t 22)), none, 1, [], [], false⟩,
   ⟨some 2, .op (.mov (.c .nils)), none, 2, [], [], false⟩,
   ⟨some 3, .op (.mov (.t 23)), none, 3, [], [], false⟩])
   (.ret))
  (.skip)))
  (.seqr [
  ⟨some 24, .op (.mov (.t 4)), none, 0, [], [], false⟩,
  ⟨some 25, .op (.mov (.t 7)), none, 1, [], [], false⟩,
  ⟨some 26, .op (.bsl 1 [(.int .i64 0)] [(0, (.t 25))]), none, 2, [], [], false⟩,
  ⟨some 27, .op (.app 1 8 (.t 24) (.t 26)), none, 3, [], [], false⟩,
  ⟨some 4, .op (.mov (.t 27)), none, 4, [], [], false⟩])))))
  (.seqr [
  ⟨some 28, .op (.bin .add (.t 11) (.c (.int .i64 1))), none, 0, [], [], false⟩,
  ⟨some 11, .op (.mov (.t 28)), none, 1, [], [], false⟩])))
def d_ticket_numbers : DFun := ⟨30, [true], [.tmp 2, .tmp 3],
 .seq (.seqr [
  ⟨some 2, .op (.mov (.c .nils)), none, 0, [], [], false⟩,
  ⟨some 3, .op (.mov (.c .nili)), none, 1, [], [], false⟩])
  (.seq (.seqr [
  ⟨some 4, .op (.mov (.c .nils)), none, 0, [], [], false⟩])
  (.seq (.seq (.seqr [
  ⟨some 9, .op (.mov (.t 0)), none, 0, [], [], false⟩,
  ⟨some 10, .op (.lenL (.t 9)), none, 1, [], [], false⟩,
  ⟨some 11, .op (.mov (.c (.int .i64 0))), none, 2, [], [], false⟩])
  (.block 0 (.loop [4, 9, 10, 11] l_ticket_numbers_0)))
  (.seq (.seqr [
  ⟨some 29, .op (.mov (.t 4)), none, 0, [], [], false⟩,
  ⟨some 2, .op (.mov (.t 29)), none, 1, [], [], false⟩,
  ⟨some 3, .op (.mov (.c .nili)), none, 2, [], [], false⟩])
  (.ret))))⟩
/-! seneschal/seal.Open -/
def l_seal_Open_0 : DCode := .seq (.seq (.seqr [
  ⟨some 37, .op (.mov (.t 13)), none, 0, [], [], false⟩,
  ⟨some 38, .op (.lenL (.t 37)), none, 1, [], [], false⟩,
  ⟨some 39, .op (.bin .gtr (.t 38) (.c (.int .i64 0))), none, 2, [], [], false⟩])
  (.cond (.t 39)
  (.skip)
  (.exit 0)))
  (.seq (.block 1 (.seq (.drwr [
  ⟨some 43, .op (.faddr 0 (.t 8)), none, 0, [], [], false⟩,
  ⟨some 44, .op (.load 1 false (.t 43)), none, 1, [], [], false⟩,
  ⟨some 45, .op (.mov (.t 13)), none, 2, [], [], false⟩,
  ⟨some 46, .op (.slcL 1 (.t 45) none (some (.c (.int .i64 16)))), none, 3, [], [], false⟩,
  ⟨some 47, .call n_aes_Decrypt [(.t 44), (.t 46)], none, 4, [], [], false⟩,
  ⟨some 42, .op (.mov (.t 47)), none, 5, [], [], false⟩,
  ⟨some 48, .op (.ext 0 (.t 42)), none, 6, [], [], false⟩,
  ⟨some 49, .op (.ext 1 (.t 42)), none, 7, [], [], false⟩,
  ⟨some 14, .op (.mov (.t 48)), none, 8, [], [], false⟩,
  ⟨some 15, .op (.mov (.t 49)), none, 9, [], [], false⟩])
  (.seq (.seqr [
  ⟨some 50, .op (.mov (.t 12)), none, 0, [], [], false⟩,
  ⟨some 51, .op (.mov (.t 14)), none, 1, [], [], false⟩,
  ⟨some 52, .op (.mov (.t 11)), none, 2, [], [], false⟩,
  ⟨some 53, .call n_seal_xor [(.t 51), (.t 52)], none, 3, [], [], false⟩,
  ⟨some 54, .op (.app 1 1 (.t 50) (.t 53)), none, 4, [], [], false⟩,
  ⟨some 12, .op (.mov (.t 54)), none, 5, [], [], false⟩])
  (.seqr [
  ⟨some 55, .op (.mov (.t 13)), none, 0, [], [], false⟩,
  ⟨some 56, .op (.slcL 1 (.t 55) none (some (.c (.int .i64 16)))), none, 1, [], [], false⟩,
  ⟨some 11, .op (.mov (.t 56)), none, 2, [], [], false⟩]))))
  (.seqr [
  ⟨some 40, .op (.mov (.t 13)), none, 0, [], [], false⟩,
  ⟨some 41, .op (.slcL 1 (.t 40) (some (.c (.int .i64 16))) none), none, 1, [], [], false⟩,
  ⟨some 13, .op (.mov (.t 41)), none, 2, [], [], false⟩]))
def d_seal_Open : DFun := ⟨60, [true, true, true], [.tmp 6, .tmp 7],
 .seq (.seqr [
  ⟨some 6, .op (.mov (.c .nils)), none, 0, [], [], false⟩,
  ⟨some 7, .op (.mov (.c (.int .i64 0))), none, 1, [], [], false⟩])
  (.seq (.seqr [
  ⟨some 17, .op (.mov (.t 0)), none, 0, [], [], false⟩,
  ⟨some 18, .op (.mov (.t 1)), none, 1, [], [], false⟩,
  ⟨some 19, .op (.mov (.t 2)), none, 2, [], [], false⟩,
  ⟨some 20, .call n_seal_look [(.t 17), (.t 18), (.t 19)], none, 3, [], [], false⟩,
  ⟨some 16, .op (.mov (.t 20)), none, 4, [], [], false⟩,
  ⟨some 21, .op (.ext 0 (.t 16)), none, 5, [], [], false⟩,
  ⟨some 22, .op (.ext 1 (.t 16)), none, 6, [], [], false⟩,
  ⟨some 8, .op (.alloc (.box [.nils, .nils])), none, 7, [], [], false⟩,
  ⟨none, .op (.store 2 (.t 8) (.t 21)), none, 8, [], [], false⟩,
  ⟨some 9, .op (.mov (.t 22)), none, 9, [], [], false⟩])
  (.seq (.seq (.seqr [
  ⟨some 23, .op (.mov (.t 9)), none, 0, [], [], false⟩,
  ⟨some 24, .op (.eqv 3 true true [t_api_Errno, t_reflectlite_flag, t_abi_Kind] (.t 23) (.c .nili)), none, 1, [], [], false⟩])
  (.cond (.t 24)
  (.seq (.seqr [
   ⟨some 25, .op (.mov (.t 9)), none, 0, [], [], false⟩,
   ⟨some 26, .op (.bsl 1 [(.int .i64 0), (.int .i64 0), (.int .i64 0), (.int .i64 0)] [(0, (.c (.int .i64 2))), (1, (.c (.int .i64 7))), (2, (.c (.int .i64 3))), (3, (.c (.int .i64 70)))]), none, 1, [], [], false⟩,
   ⟨some 27, .call n_seal_number [(.t 25), (.t 26)], none, 2, [], [], false⟩,
   ⟨some 6, .op (.mov (.c .nils)), none, 3, [], [], false⟩,
   ⟨some 7, .op (.mov (.t 27)), none, 4, [], [], false⟩])
   (.ret))
  (.skip)))
  (.seq (.seqr [
  ⟨some 28, .op (.mov (.t 2)), none, 0, [], [], false⟩,
  ⟨some 29, .op (.lenL (.t 28)), none, 1, [], [], false⟩,
  ⟨some 30, .op (.bin .sub (.t 29) (.c (.int .i64 16))), none, 2, [], [], false⟩,
  ⟨some 10, .op (.mov (.t 30)), none, 3, [], [], false⟩])
  (.seq (.seqr [
  ⟨some 31, .op (.mksl 1 (.int .u8 0) 1 (.c (.int .i64 16)) (.c (.int .i64 16))), none, 0, [], [], false⟩,
  ⟨some 11, .op (.mov (.t 31)), none, 1, [], [], false⟩])
  (.seq (.seqr [
  ⟨some 12, .op (.mov (.c .nils)), none, 0, [], [], false⟩])
  (.seq (.seq (.drwr [
  ⟨some 32, .op (.load 2 true (.t 8)), none, 0, [], [], false⟩,
  ⟨some 33, .op (.mov (.t 2)), none, 1, [], [], false⟩,
  ⟨some 34, .op (.mov (.t 10)), none, 2, [], [], false⟩,
  ⟨some 35, .op (.slcL 1 (.t 33) none (some (.t 34))), none, 3, [], [], false⟩,
  ⟨some 36, .call n_seal_pair_whole [(.t 32), (.t 35)], none, 4, [], [], false⟩,
  ⟨some 13, .op (.mov (.t 36)), none, 5, [], [], false⟩])
  (.block 0 (.loop [8, 10, 11, 12, 13] l_seal_Open_0)))
  (.seq (.seqr [
  ⟨some 57, .op (.mov (.t 12)), none, 0, [], [], false⟩,
  ⟨some 58, .op (.mov (.t 10)), none, 1, [], [], false⟩,
  ⟨some 59, .op (.slcL 1 (.t 57) (some (.c (.int .i64 16))) (some (.t 58))), none, 2, [], [], false⟩,
  ⟨some 6, .op (.mov (.t 59)), none, 3, [], [], false⟩,
  ⟨some 7, .op (.mov (.c (.int .i64 0))), none, 4, [], [], false⟩])
  (.ret))))))))⟩
/-! seneschal/ticket.late -/
def d_ticket_late : DFun := ⟨21, [true, true, true], [.tmp 6],
 .seq (.seqr [
  ⟨some 6, .op (.mov (.c (.bool false))), none, 0, [], [], false⟩])
  (.seq (.seqr [
  ⟨some 7, .op (.mov (.t 1)), none, 0, [], [], false⟩,
  ⟨some 8, .op (.mov (.t 0)), none, 1, [], [], false⟩,
  ⟨some 9, .op (.bin .gtr (.t 7) (.t 8)), none, 2, [], [], false⟩,
  ⟨some 10, .op (.mov (.t 9)), none, 3, [], [], false⟩,
  ⟨some 11, .op (.mov (.t 1)), some (10, true), 4, [], [], false⟩,
  ⟨some 12, .op (.conv .u64 (.t 11)), some (10, true), 5, [], [], false⟩,
  ⟨some 13, .op (.mov (.t 0)), some (10, true), 6, [], [], false⟩,
  ⟨some 14, .op (.conv .u64 (.t 13)), some (10, true), 7, [], [], false⟩,
  ⟨some 15, .op (.bin .sub (.t 12) (.t 14)), some (10, true), 8, [], [], false⟩,
  ⟨some 16, .op (.mov (.t 2)), some (10, true), 9, [], [], false⟩,
  ⟨some 17, .op (.mnx false (.t 16) (.c (.int .i64 0))), some (10, true), 10, [], [], false⟩,
  ⟨some 18, .op (.conv .u64 (.t 17)), some (10, true), 11, [], [], false⟩,
  ⟨some 19, .op (.bin .gtr (.t 15) (.t 18)), some (10, true), 12, [], [], false⟩,
  ⟨some 20, .op (.pick (.t 10) (.t 19) (.c (.bool false))), none, 13, [], [], false⟩,
  ⟨some 6, .op (.mov (.t 20)), none, 14, [], [], false⟩])
  (.ret))⟩
/-! internal/strconv.Itoa -/
def d_strconv_Itoa_115 : DFun := ⟨5, [true], [.tmp 2],
 .seq (.seqr [
  ⟨some 2, .op (.mov (.c (.str []))), none, 0, [], [], false⟩])
  (.seq (.seqr [
  ⟨some 3, .op (.mov (.t 0)), none, 0, [], [], false⟩,
  ⟨some 4, .call n_strconv_FormatInt [(.t 3), (.c (.int .i64 10))], none, 1, [], [], false⟩,
  ⟨some 2, .op (.mov (.t 4)), none, 2, [], [], false⟩])
  (.ret))⟩
/-! (*seneschal/cache.Replay).is -/
def d_cache_Replay_is : DFun := ⟨12, [false], [.tmp 2],
 .seq (.seqr [
  ⟨some 2, .op (.mov (.c (.bool false))), none, 0, [], [], false⟩])
  (.seq (.seqr [
  ⟨some 3, .op (.mov (.t 0)), none, 0, [], [], false⟩,
  ⟨some 4, .op (.eqv 1 true false [] (.t 3) (.c .nilp)), none, 1, [], [], false⟩,
  ⟨some 5, .op (.mov (.t 4)), none, 2, [], [], false⟩,
  ⟨some 6, .op (.mov (.t 0)), some (5, true), 3, [], [], false⟩,
  ⟨some 7, .op (.nilchk (.t 6)), some (5, true), 4, [], [], false⟩,
  ⟨some 8, .op (.faddr 2 (.t 7)), some (5, true), 5, [], [], false⟩,
  ⟨some 9, .op (.load 1 false (.t 8)), some (5, true), 6, [], [], false⟩,
  ⟨some 10, .op (.eqv 2 true false [] (.t 9) (.c .nilm)), some (5, true), 7, [], [], false⟩,
  ⟨some 11, .op (.pick (.t 5) (.t 10) (.c (.bool false))), none, 8, [], [], false⟩,
  ⟨some 2, .op (.mov (.t 11)), none, 9, [], [], false⟩])
  (.ret))⟩
/-! (*seneschal/cache.Replay).Has -/
def d_cache_Replay_Has : DFun := ⟨20, [false, true], [.tmp 4],
 .seq (.seqr [
  ⟨some 4, .op (.mov (.c (.bool false))), none, 0, [], [], false⟩])
  (.seq (.seq (.seqr [
  ⟨some 7, .op (.mov (.t 0)), none, 0, [], [], false⟩,
  ⟨some 8, .call n_cache_Replay_is [(.t 7)], none, 1, [], [], false⟩,
  ⟨some 9, .op (.un .not (.t 8)), none, 2, [], [], false⟩])
  (.cond (.t 9)
  (.seq (.seqr [
   ⟨some 4, .op (.mov (.c (.bool false))), none, 0, [], [], false⟩])
   (.ret))
  (.skip)))
  (.seq (.seqr [
  ⟨some 11, .op (.mov (.t 0)), none, 0, [], [], false⟩,
  ⟨some 12, .op (.nilchk (.t 11)), none, 1, [], [], false⟩,
  ⟨some 13, .op (.faddr 2 (.t 12)), none, 2, [], [], false⟩,
  ⟨some 14, .op (.load 1 false (.t 13)), none, 3, [], [], false⟩,
  ⟨some 15, .op (.mov (.t 1)), none, 4, [], [], false⟩,
  ⟨some 16, .op (.look 2 (.int .i64 0) true (.t 14) (.t 15)), none, 5, [], [], false⟩,
  ⟨some 10, .op (.mov (.t 16)), none, 6, [], [], false⟩,
  ⟨some 17, .op (.ext 0 (.t 10)), none, 7, [], [], false⟩,
  ⟨some 18, .op (.ext 1 (.t 10)), none, 8, [], [], false⟩,
  ⟨some 5, .op (.mov (.t 17)), none, 9, [], [], false⟩,
  ⟨some 6, .op (.mov (.t 18)), none, 10, [], [], false⟩])
  (.seq (.seqr [
  ⟨some 19, .op (.mov (.t 6)), none, 0, [], [], false⟩,
  ⟨some 4, .op (.mov (.t 19)), none, 1, [], [], false⟩])
  (.ret))))⟩
/-! (*seneschal/who.Book).Grant -/
def d_who_Book_Grant : DFun := ⟨109, [false, true, true], [.cell 6 7 true, .tmp 7, .tmp 8],
 .seq (.seqr [
  ⟨some 4, .op (.box 0 (.t 1)), none, 0, [], [], false⟩,
  ⟨some 6, .op (.alloc (.box [(.str []), (.str []), .nils, (.int .i64 0), (.int .i64 0), (.int .i64 0), (.int .i64 0)])), none, 1, [], [], false⟩,
  ⟨some 7, .op (.mov (.c (.int .i64 0))), none, 2, [], [], false⟩,
  ⟨some 8, .op (.mov (.c (.int .i64 0))), none, 3, [], [], false⟩])
  (.seq (.block 0 (.seq (.seqr [
  ⟨some 14, .op (.mov (.t 0)), none, 0, [], [], false⟩,
  ⟨some 15, .call n_who_Book_is [(.t 14)], none, 1, [], [], false⟩,
  ⟨some 16, .op (.un .not (.t 15)), none, 2, [], [], false⟩,
  ⟨some 13, .op (.mov (.t 16)), none, 3, [], [], false⟩])
  (.cond (.t 13)
  (.seq (.seqr [
   ⟨some 17, .op (.build [(.str []), (.str []), .nils, (.int .i64 0), (.int .i64 0), (.int .i64 0), (.int .i64 0)] []), none, 0, [], [], false⟩,
   ⟨none, .op (.store 7 (.t 6) (.t 17)), none, 1, [], [], false⟩,
   ⟨some 7, .op (.mov (.c (.int .i64 0))), none, 2, [], [], false⟩,
   ⟨some 8, .op (.mov (.c (.int .i64 1))), none, 3, [], [], false⟩])
   (.ret))
  (.seq (.seqr [
   ⟨some 19, .op (.mov (.t 2)), none, 0, [], [], false⟩,
   ⟨some 20, .op (.faddr 3 (.t 4)), none, 1, [], [], false⟩,
   ⟨some 21, .op (.load 1 false (.t 20)), none, 2, [], [], false⟩,
   ⟨some 22, .op (.faddr 4 (.t 4)), none, 3, [], [], false⟩,
   ⟨some 23, .op (.load 1 false (.t 22)), none, 4, [], [], false⟩,
   ⟨some 24, .op (.faddr 5 (.t 4)), none, 5, [], [], false⟩,
   ⟨some 25, .op (.load 1 false (.t 24)), none, 6, [], [], false⟩,
   ⟨some 26, .op (.bsl 1 [(.int .i64 0), (.int .i64 0), (.int .i64 0), (.int .i64 0)] [(0, (.t 19)), (1, (.t 21)), (2, (.t 23)), (3, (.t 25))]), none, 7, [], [], false⟩,
   ⟨some 27, .call n_who_times [(.t 26)], none, 8, [], [], false⟩,
   ⟨some 28, .op (.un .not (.t 27)), none, 9, [], [], false⟩,
   ⟨some 18, .op (.mov (.t 28)), none, 10, [], [], false⟩])
   (.cond (.t 18)
   (.seq (.seqr [
    ⟨some 29, .op (.build [(.str []), (.str []), .nils, (.int .i64 0), (.int .i64 0), (.int .i64 0), (.int .i64 0)] []), none, 0, [], [], false⟩,
    ⟨none, .op (.store 7 (.t 6) (.t 29)), none, 1, [], [], false⟩,
    ⟨some 7, .op (.mov (.c (.int .i64 0))), none, 2, [], [], false⟩,
    ⟨some 8, .op (.mov (.c (.int .i64 2))), none, 3, [], [], false⟩])
    (.ret))
   (.skip))))))
  (.seq (.drwr [
  ⟨some 30, .op (.mov (.t 0)), none, 0, [], [], false⟩,
  ⟨some 31, .op (.nilchk (.t 30)), none, 1, [], [], false⟩,
  ⟨some 32, .op (.faddr 0 (.t 31)), none, 2, [], [], false⟩,
  ⟨some 33, .op (.load 1 false (.t 32)), none, 3, [], [], false⟩,
  ⟨some 34, .op (.faddr 0 (.t 4)), none, 4, [], [], false⟩,
  ⟨some 35, .op (.load 1 false (.t 34)), none, 5, [], [], false⟩,
  ⟨some 36, .op (.look 2 (.agg [(.str []), .nils, (.int .i64 0), (.int .i64 0), (.int .i64 0)]) false (.t 33) (.t 35)), none, 6, [], [], false⟩,
  ⟨some 37, .op (.mov (.t 0)), none, 7, [], [], false⟩,
  ⟨some 38, .op (.nilchk (.t 37)), none, 8, [], [], false⟩,
  ⟨some 39, .op (.faddr 0 (.t 38)), none, 9, [], [], false⟩,
  ⟨some 41, .op (.faddr 1 (.t 4)), none, 11, [], [], false⟩,
  ⟨some 9, .op (.alloc (.box [(.str []), .nils, (.int .i64 0), (.int .i64 0), (.int .i64 0)])), none, 14, [], [], false⟩,
  ⟨some 10, .op (.alloc (.box [(.str []), .nils, (.int .i64 0), (.int .i64 0), (.int .i64 0)])), none, 15, [], [], false⟩,
  ⟨none, .op (.store 5 (.t 9) (.t 36)), none, 16, [11, 12], [], false⟩,
  ⟨some 40, .op (.load 1 false (.t 39)), none, 10, [], [13], false⟩,
  ⟨some 42, .op (.load 1 false (.t 41)), none, 12, [], [13], false⟩,
  ⟨some 43, .op (.look 2 (.agg [(.str []), .nils, (.int .i64 0), (.int .i64 0), (.int .i64 0)]) false (.t 40) (.t 42)), none, 13, [], [13], false⟩,
  ⟨none, .op (.store 5 (.t 10) (.t 43)), none, 17, [11, 12, 13], [], false⟩])
  (.seq (.seq (.seqr [
  ⟨some 44, .op (.load 7 true (.t 4)), none, 0, [], [], false⟩,
  ⟨some 45, .op (.load 5 true (.t 9)), none, 1, [], [], false⟩,
  ⟨some 46, .op (.load 5 true (.t 10)), none, 2, [], [], false⟩,
  ⟨some 47, .op (.mov (.t 2)), none, 3, [], [], false⟩,
  ⟨some 48, .call n_who_refused [(.t 44), (.t 45), (.t 46), (.t 47)], none, 4, [], [], false⟩,
  ⟨some 11, .op (.mov (.t 48)), none, 5, [], [], false⟩])
  (.seq (.seqr [
  ⟨some 49, .op (.mov (.t 11)), none, 0, [], [], false⟩,
  ⟨some 50, .op (.bin .neq (.t 49) (.c (.int .i64 0))), none, 1, [], [], false⟩])
  (.cond (.t 50)
  (.seq (.seqr [
   ⟨some 51, .op (.build [(.str []), (.str []), .nils, (.int .i64 0), (.int .i64 0), (.int .i64 0), (.int .i64 0)] []), none, 0, [], [], false⟩,
   ⟨some 52, .op (.mov (.t 11)), none, 1, [], [], false⟩,
   ⟨none, .op (.store 7 (.t 6) (.t 51)), none, 2, [], [], false⟩,
   ⟨some 7, .op (.mov (.t 52)), none, 3, [], [], false⟩,
   ⟨some 8, .op (.mov (.c (.int .i64 0))), none, 4, [], [], false⟩])
   (.ret))
  (.skip))))
  (.seq (.seqr [
  ⟨some 53, .op (.faddr 2 (.t 4)), none, 0, [], [], false⟩,
  ⟨none, .op (.store 1 (.t 53) (.c .nils)), none, 1, [], [], false⟩])
  (.seq (.seqr [
  ⟨some 54, .op (.faddr 3 (.t 4)), none, 0, [], [], false⟩,
  ⟨some 55, .op (.load 1 false (.t 54)), none, 1, [], [], false⟩,
  ⟨some 56, .op (.mov (.t 2)), none, 2, [], [], false⟩,
  ⟨some 57, .op (.mnx false (.t 55) (.t 56)), none, 3, [], [], false⟩,
  ⟨some 58, .op (.faddr 3 (.t 4)), none, 4, [], [], false⟩,
  ⟨none, .op (.store 1 (.t 58) (.t 57)), none, 5, [], [], false⟩])
  (.seq (.seqr [
  ⟨some 59, .op (.faddr 3 (.t 4)), none, 0, [], [], false⟩,
  ⟨some 60, .op (.load 1 false (.t 59)), none, 1, [], [], false⟩,
  ⟨some 61, .op (.faddr 3 (.t 9)), none, 2, [], [], false⟩,
  ⟨some 62, .op (.load 1 false (.t 61)), none, 3, [], [], false⟩,
  ⟨some 63, .op (.faddr 3 (.t 10)), none, 4, [], [], false⟩,
  ⟨some 64, .op (.load 1 false (.t 63)), none, 5, [], [], false⟩,
  ⟨some 65, .op (.mnx true (.t 62) (.t 64)), none, 6, [], [], false⟩,
  ⟨some 66, .op (.bin .add (.t 60) (.t 65)), none, 7, [], [], false⟩,
  ⟨some 12, .op (.mov (.t 66)), none, 8, [], [], false⟩])
  (.seq (.seq (.seqr [
  ⟨some 67, .op (.faddr 4 (.t 4)), none, 0, [], [], false⟩,
  ⟨some 68, .op (.load 1 false (.t 67)), none, 1, [], [], false⟩,
  ⟨some 69, .op (.bin .eql (.t 68) (.c (.int .i64 0))), none, 2, [], [], false⟩,
  ⟨some 70, .op (.mov (.t 69)), none, 3, [], [], false⟩,
  ⟨some 71, .op (.faddr 4 (.t 4)), some (70, false), 4, [], [], false⟩,
  ⟨some 72, .op (.load 1 false (.t 71)), some (70, false), 5, [], [], false⟩,
  ⟨some 73, .op (.mov (.t 12)), some (70, false), 6, [], [], false⟩,
  ⟨some 74, .op (.bin .gtr (.t 72) (.t 73)), some (70, false), 7, [], [], false⟩,
  ⟨some 75, .op (.pick (.t 70) (.c (.bool true)) (.t 74)), none, 8, [], [], false⟩])
  (.cond (.t 75)
  (.seqr [
   ⟨some 76, .op (.mov (.t 12)), none, 0, [], [], false⟩,
   ⟨some 77, .op (.faddr 4 (.t 4)), none, 1, [], [], false⟩,
   ⟨none, .op (.store 1 (.t 77) (.t 76)), none, 2, [], [], false⟩])
  (.skip)))
  (.seq (.seq (.seqr [
  ⟨some 78, .op (.faddr 6 (.t 4)), none, 0, [], [], false⟩,
  ⟨some 79, .op (.load 1 false (.t 78)), none, 1, [], [], false⟩,
  ⟨some 80, .op (.bin .and (.t 79) (.c (.int .i64 4))), none, 2, [], [], false⟩,
  ⟨some 81, .op (.bin .eql (.t 80) (.c (.int .i64 0))), none, 3, [], [], false⟩,
  ⟨some 82, .op (.mov (.t 81)), none, 4, [], [], false⟩,
  ⟨some 83, .op (.faddr 5 (.t 4)), some (82, false), 5, [], [], false⟩,
  ⟨some 84, .op (.load 1 false (.t 83)), some (82, false), 6, [], [], false⟩,
  ⟨some 85, .op (.bin .eql (.t 84) (.c (.int .i64 0))), some (82, false), 7, [], [], false⟩,
  ⟨some 86, .op (.pick (.t 82) (.c (.bool true)) (.t 85)), none, 8, [], [], false⟩])
  (.cond (.t 86)
  (.seq (.seqr [
   ⟨some 87, .op (.faddr 6 (.t 4)), none, 0, [], [], false⟩,
   ⟨some 88, .op (.load 1 false (.t 87)), none, 1, [], [], false⟩,
   ⟨some 89, .op (.bin .andNot (.t 88) (.c (.int .i64 4))), none, 2, [], [], false⟩,
   ⟨some 90, .op (.faddr 6 (.t 4)), none, 3, [], [], false⟩,
   ⟨none, .op (.store 1 (.t 90) (.t 89)), none, 4, [], [], false⟩,
   ⟨some 91, .op (.faddr 5 (.t 4)), none, 5, [], [], false⟩,
   ⟨none, .op (.store 1 (.t 91) (.c (.int .i64 0))), none, 6, [], [], false⟩])
   (.seq (.seqr [
   ⟨some 92, .op (.load 7 true (.t 4)), none, 0, [], [], false⟩,
   ⟨none, .op (.store 7 (.t 6) (.t 92)), none, 1, [], [], false⟩,
   ⟨some 7, .op (.mov (.c (.int .i64 0))), none, 2, [], [], false⟩,
   ⟨some 8, .op (.mov (.c (.int .i64 0))), none, 3, [], [], false⟩])
   (.ret)))
  (.skip)))
  (.seq (.seqr [
  ⟨some 93, .op (.faddr 5 (.t 4)), none, 0, [], [], false⟩,
  ⟨some 94, .op (.load 1 false (.t 93)), none, 1, [], [], false⟩,
  ⟨some 95, .op (.faddr 3 (.t 4)), none, 2, [], [], false⟩,
  ⟨some 96, .op (.load 1 false (.t 95)), none, 3, [], [], false⟩,
  ⟨some 97, .op (.faddr 4 (.t 9)), none, 4, [], [], false⟩,
  ⟨some 98, .op (.load 1 false (.t 97)), none, 5, [], [], false⟩,
  ⟨some 99, .op (.faddr 4 (.t 10)), none, 6, [], [], false⟩,
  ⟨some 100, .op (.load 1 false (.t 99)), none, 7, [], [], false⟩,
  ⟨some 101, .op (.mnx true (.t 98) (.t 100)), none, 8, [], [], false⟩,
  ⟨some 102, .op (.bin .add (.t 96) (.t 101)), none, 9, [], [], false⟩,
  ⟨some 103, .op (.mnx true (.t 94) (.t 102)), none, 10, [], [], false⟩,
  ⟨some 104, .op (.faddr 4 (.t 4)), none, 11, [], [], false⟩,
  ⟨some 105, .op (.load 1 false (.t 104)), none, 12, [], [], false⟩,
  ⟨some 106, .op (.mnx false (.t 103) (.t 105)), none, 13, [], [], false⟩,
  ⟨some 107, .op (.faddr 5 (.t 4)), none, 14, [], [], false⟩,
  ⟨none, .op (.store 1 (.t 107) (.t 106)), none, 15, [], [], false⟩])
  (.seq (.seqr [
  ⟨some 108, .op (.load 7 true (.t 4)), none, 0, [], [], false⟩,
  ⟨none, .op (.store 7 (.t 6) (.t 108)), none, 1, [], [], false⟩,
  ⟨some 7, .op (.mov (.c (.int .i64 0))), none, 2, [], [], false⟩,
  ⟨some 8, .op (.mov (.c (.int .i64 0))), none, 3, [], [], false⟩])
  (.ret)))))))))))⟩
/-! seneschal/tgs.trim -/
def d_tgs_trim : DFun := ⟨40, [true, true], [.cell 4 7 true, .tmp 5],
 .seq (.seqr [
  ⟨some 2, .op (.box 0 (.t 0)), none, 0, [], [], false⟩,
  ⟨some 3, .op (.box 0 (.t 1)), none, 1, [], [], false⟩,
  ⟨some 4, .op (.alloc (.box [(.str []), (.str []), .nils, (.int .i64 0), (.int .i64 0), (.int .i64 0), (.int .i64 0)])), none, 2, [], [], false⟩,
  ⟨some 5, .op (.mov (.c (.int .i64 0))), none, 3, [], [], false⟩])
  (.seq (.seqr [
  ⟨some 7, .op (.faddr 4 (.t 2)), none, 0, [], [], false⟩,
  ⟨some 8, .op (.load 1 false (.t 7)), none, 1, [], [], false⟩,
  ⟨some 9, .op (.faddr 4 (.t 3)), none, 2, [], [], false⟩,
  ⟨some 10, .op (.load 1 false (.t 9)), none, 3, [], [], false⟩,
  ⟨some 11, .op (.mnx true (.t 8) (.t 10)), none, 4, [], [], false⟩,
  ⟨some 12, .op (.faddr 4 (.t 2)), none, 5, [], [], false⟩,
  ⟨none, .op (.store 1 (.t 12) (.t 11)), none, 6, [], [], false⟩])
  (.seq (.seqr [
  ⟨some 13, .op (.faddr 5 (.t 2)), none, 0, [], [], false⟩,
  ⟨some 14, .op (.load 1 false (.t 13)), none, 1, [], [], false⟩,
  ⟨some 15, .op (.bin .gtr (.t 14) (.c (.int .i64 0))), none, 2, [], [], false⟩,
  ⟨some 6, .op (.mov (.t 15)), none, 3, [], [], false⟩])
  (.seq (.seq (.seqr [
  ⟨some 16, .op (.mov (.t 6)), none, 0, [], [], false⟩])
  (.cond (.t 16)
  (.seqr [
   ⟨some 17, .op (.faddr 5 (.t 2)), none, 0, [], [], false⟩,
   ⟨some 18, .op (.load 1 false (.t 17)), none, 1, [], [], false⟩,
   ⟨some 19, .op (.faddr 5 (.t 3)), none, 2, [], [], false⟩,
   ⟨some 20, .op (.load 1 false (.t 19)), none, 3, [], [], false⟩,
   ⟨some 21, .op (.mnx true (.t 18) (.t 20)), none, 4, [], [], false⟩,
   ⟨some 22, .op (.faddr 5 (.t 2)), none, 5, [], [], false⟩,
   ⟨none, .op (.store 1 (.t 22) (.t 21)), none, 6, [], [], false⟩])
  (.skip)))
  (.seq (.seq (.seqr [
  ⟨some 23, .op (.faddr 4 (.t 2)), none, 0, [], [], false⟩,
  ⟨some 24, .op (.load 1 false (.t 23)), none, 1, [], [], false⟩,
  ⟨some 25, .op (.faddr 3 (.t 2)), none, 2, [], [], false⟩,
  ⟨some 26, .op (.load 1 false (.t 25)), none, 3, [], [], false⟩,
  ⟨some 27, .op (.bin .leq (.t 24) (.t 26)), none, 4, [], [], false⟩,
  ⟨some 28, .op (.mov (.t 27)), none, 5, [], [], false⟩,
  ⟨some 29, .op (.mov (.t 6)), some (28, false), 6, [], [], false⟩,
  ⟨some 30, .op (.mov (.t 29)), some (28, false), 7, [], [], false⟩,
  ⟨some 31, .op (.faddr 5 (.t 2)), some (30, true), 8, [], [], false⟩,
  ⟨some 32, .op (.load 1 false (.t 31)), some (30, true), 9, [], [], false⟩,
  ⟨some 33, .op (.faddr 4 (.t 2)), some (30, true), 10, [], [], false⟩,
  ⟨some 34, .op (.load 1 false (.t 33)), some (30, true), 11, [], [], false⟩,
  ⟨some 35, .op (.bin .lss (.t 32) (.t 34)), some (30, true), 12, [], [], false⟩,
  ⟨some 36, .op (.pick (.t 30) (.t 35) (.c (.bool false))), some (28, false), 13, [], [], false⟩,
  ⟨some 37, .op (.pick (.t 28) (.c (.bool true)) (.t 36)), none, 14, [], [], false⟩])
  (.cond (.t 37)
  (.seq (.seqr [
   ⟨some 38, .op (.build [(.str []), (.str []), .nils, (.int .i64 0), (.int .i64 0), (.int .i64 0), (.int .i64 0)] []), none, 0, [], [], false⟩,
   ⟨none, .op (.store 7 (.t 4) (.t 38)), none, 1, [], [], false⟩,
   ⟨some 5, .op (.mov (.c (.int .i64 12))), none, 2, [], [], false⟩])
   (.ret))
  (.skip)))
  (.seq (.seqr [
  ⟨some 39, .op (.load 7 true (.t 2)), none, 0, [], [], false⟩,
  ⟨none, .op (.store 7 (.t 4) (.t 39)), none, 1, [], [], false⟩,
  ⟨some 5, .op (.mov (.c (.int .i64 0))), none, 2, [], [], false⟩])
  (.ret))))))⟩
/-! seneschal/mac.Expand -/
def l_mac_Expand_0 : DCode := .seq (.seq (.seqr [
  ⟨some 22, .op (.mov (.t 8)), none, 0, [], [], false⟩,
  ⟨some 23, .op (.lenL (.t 22)), none, 1, [], [], false⟩,
  ⟨some 24, .op (.mov (.t 2)), none, 2, [], [], false⟩,
  ⟨some 25, .op (.bin .lss (.t 23) (.t 24)), none, 3, [], [], false⟩])
  (.cond (.t 25)
  (.skip)
  (.exit 1)))
  (.seq (.block 2 (.seq (.seqr [
  ⟨some 28, .op (.mov (.t 8)), none, 0, [], [], false⟩,
  ⟨some 29, .op (.mov (.t 8)), none, 1, [], [], false⟩,
  ⟨some 30, .op (.lenL (.t 29)), none, 2, [], [], false⟩,
  ⟨some 31, .op (.bin .sub (.t 30) (.c (.int .i64 32))), none, 3, [], [], false⟩,
  ⟨some 32, .op (.mnx false (.c (.int .i64 0)) (.t 31)), none, 4, [], [], false⟩,
  ⟨some 33, .op (.slcL 1 (.t 28) (some (.t 32)) none), none, 5, [], [], false⟩,
  ⟨some 10, .op (.mov (.t 33)), none, 6, [], [], false⟩])
  (.seq (.seqr [
  ⟨some 34, .op (.bsl 1 [] []), none, 0, [], [], false⟩,
  ⟨some 35, .op (.mov (.t 10)), none, 1, [], [], false⟩,
  ⟨some 36, .op (.app 1 1 (.t 34) (.t 35)), none, 2, [], [], false⟩,
  ⟨some 37, .op (.mov (.t 1)), none, 3, [], [], false⟩,
  ⟨some 38, .op (.appS 1 (.t 36) (.t 37)), none, 4, [], [], false⟩,
  ⟨some 39, .op (.mov (.t 9)), none, 5, [], [], false⟩,
  ⟨some 40, .op (.bsl 1 [(.int .u8 0)] [(0, (.t 39))]), none, 6, [], [], false⟩,
  ⟨some 41, .op (.app 1 1 (.t 38) (.t 40)), none, 7, [], [], false⟩,
  ⟨some 11, .op (.mov (.t 41)), none, 8, [], [], false⟩])
  (.seq (.seqr [
  ⟨some 42, .op (.mov (.t 0)), none, 0, [], [], false⟩,
  ⟨some 43, .op (.mov (.t 11)), none, 1, [], [], false⟩,
  ⟨some 44, .call n_mac_Sum [(.t 42), (.t 43)], none, 2, [], [], false⟩,
  ⟨some 12, .op (.alloc (.row (bytesV (List.replicate 32 0)) 1)), none, 3, [], [], false⟩,
  ⟨none, .op (.store 32 (.t 12) (.t 44)), none, 4, [], [], false⟩])
  (.seqr [
  ⟨some 45, .op (.mov (.t 8)), none, 0, [], [], false⟩,
  ⟨some 46, .op (.slcA 32 1 (.t 12) none none), none, 1, [], [], false⟩,
  ⟨some 47, .op (.app 1 1 (.t 45) (.t 46)), none, 2, [], [], false⟩,
  ⟨some 8, .op (.mov (.t 47)), none, 3, [], [], false⟩])))))
  (.seqr [
  ⟨some 26, .op (.mov (.t 9)), none, 0, [], [], false⟩,
  ⟨some 27, .op (.bin .add (.t 26) (.c (.int .u8 1))), none, 1, [], [], false⟩,
  ⟨some 9, .op (.mov (.t 27)), none, 2, [], [], false⟩]))
def d_mac_Expand : DFun := ⟨51, [true, true, true], [.tmp 6, .tmp 7],
 .seq (.seqr [
  ⟨some 6, .op (.mov (.c .nils)), none, 0, [], [], false⟩,
  ⟨some 7, .op (.mov (.c (.int .i64 0))), none, 1, [], [], false⟩])
  (.seq (.block 0 (.seq (.seqr [
  ⟨some 14, .op (.mov (.t 2)), none, 0, [], [], false⟩,
  ⟨some 15, .op (.bin .lss (.t 14) (.c (.int .i64 0))), none, 1, [], [], false⟩,
  ⟨some 13, .op (.mov (.t 15)), none, 2, [], [], false⟩])
  (.cond (.t 13)
  (.seq (.seqr [
   ⟨some 6, .op (.mov (.c .nils)), none, 0, [], [], false⟩,
   ⟨some 7, .op (.mov (.c (.int .i64 2))), none, 1, [], [], false⟩])
   (.ret))
  (.seq (.seqr [
   ⟨some 17, .op (.mov (.t 2)), none, 0, [], [], false⟩,
   ⟨some 18, .op (.bin .gtr (.t 17) (.c (.int .i64 8160))), none, 1, [], [], false⟩,
   ⟨some 16, .op (.mov (.t 18)), none, 2, [], [], false⟩])
   (.cond (.t 16)
   (.seq (.seqr [
    ⟨some 6, .op (.mov (.c .nils)), none, 0, [], [], false⟩,
    ⟨some 7, .op (.mov (.c (.int .i64 3))), none, 1, [], [], false⟩])
    (.ret))
   (.skip))))))
  (.seq (.seqr [
  ⟨some 19, .op (.mov (.t 2)), none, 0, [], [], false⟩,
  ⟨some 20, .op (.bin .add (.t 19) (.c (.int .i64 32))), none, 1, [], [], false⟩,
  ⟨some 21, .op (.mksl 1 (.int .u8 0) 1 (.c (.int .i64 0)) (.t 20)), none, 2, [], [], false⟩,
  ⟨some 8, .op (.mov (.t 21)), none, 3, [], [], false⟩])
  (.seq (.seq (.seqr [
  ⟨some 9, .op (.mov (.c (.int .u8 1))), none, 0, [], [], false⟩])
  (.block 1 (.loop [0, 1, 2, 8, 9] l_mac_Expand_0)))
  (.seq (.seqr [
  ⟨some 48, .op (.mov (.t 8)), none, 0, [], [], false⟩,
  ⟨some 49, .op (.mov (.t 2)), none, 1, [], [], false⟩,
  ⟨some 50, .op (.slcL 1 (.t 48) none (some (.t 49))), none, 2, [], [], false⟩,
  ⟨some 6, .op (.mov (.t 50)), none, 3, [], [], false⟩,
  ⟨some 7, .op (.mov (.c (.int .i64 0))), none, 4, [], [], false⟩])
  (.ret)))))⟩
/-! seneschal/aes.Encrypt -/
def l_aes_Encrypt_0 : DCode := .seq (.seqr [
  ⟨some 32, .op (.bin .lss (.t 31) (.c (.int .i64 16))), none, 0, [], [], false⟩])
  (.seq (.cond (.t 32)
  (.skip)
  (.exit 2))
  (.seq (.block 3 (.seq (.drwr [
  ⟨some 33, .op (.mov (.t 31)), none, 0, [], [], false⟩,
  ⟨some 34, .op (.nilchk (.t 30)), none, 1, [], [], false⟩,
  ⟨some 35, .op (.iaddr (some 16) 1 (.t 34) (.t 31)), none, 2, [], [], false⟩,
  ⟨some 36, .op (.load 1 false (.t 35)), none, 3, [], [], false⟩,
  ⟨some 10, .op (.mov (.t 33)), none, 4, [], [], false⟩,
  ⟨some 11, .op (.mov (.t 36)), none, 5, [], [], false⟩])
  (.drwr [
  ⟨some 37, .op (.mov (.t 6)), none, 0, [], [], false⟩,
  ⟨some 38, .op (.mov (.t 10)), none, 1, [], [], false⟩,
  ⟨some 39, .call n_aes_box [], none, 2, [], [], false⟩,
  ⟨some 40, .op (.mov (.t 11)), none, 3, [], [], false⟩,
  ⟨some 41, .op (.idxA 256 1 false (.t 39) (.t 40)), none, 4, [], [], false⟩,
  ⟨some 42, .op (.nilchk (.t 37)), none, 5, [], [], false⟩,
  ⟨some 43, .op (.iaddr (some 16) 1 (.t 42) (.t 38)), none, 6, [2], [], false⟩,
  ⟨none, .op (.store 1 (.t 43) (.t 41)), none, 7, [2], [], false⟩])))
  (.seqr [
  ⟨some 44, .op (.bin .add (.t 31) (.c (.int .i64 1))), none, 0, [], [], false⟩,
  ⟨some 31, .op (.mov (.t 44)), none, 1, [], [], false⟩])))
def l_aes_Encrypt_1 : DCode := .seq (.seq (.seqr [
  ⟨some 26, .op (.mov (.t 9)), none, 0, [], [], false⟩,
  ⟨some 27, .op (.bin .leq (.t 26) (.c (.int .i64 10))), none, 1, [], [], false⟩])
  (.cond (.t 27)
  (.skip)
  (.exit 0)))
  (.seq (.block 1 (.seq (.seq (.seqr [
  ⟨some 30, .op (.mov (.t 6)), none, 0, [], [], false⟩,
  ⟨some 31, .op (.mov (.c (.int .i64 0))), none, 1, [], [], false⟩])
  (.block 2 (.loop [6, 7, 8, 9, 30, 31] l_aes_Encrypt_0)))
  (.seq (.seqr [
  ⟨some 45, .op (.mov (.t 6)), none, 0, [], [], false⟩,
  ⟨some 46, .call n_aes_block_turn [(.t 45), (.c (.int .i64 1))], none, 1, [], [], false⟩])
  (.block 4 (.seq (.block 6 (.seq (.block 5 (.seq (.seq (.seqr [
  ⟨some 48, .op (.mov (.t 9)), none, 0, [], [], false⟩,
  ⟨some 49, .op (.bin .lss (.t 48) (.c (.int .i64 10))), none, 1, [], [], false⟩,
  ⟨some 47, .op (.mov (.t 49)), none, 2, [], [], false⟩])
  (.cond (.t 47)
  (.exit 5)
  (.skip)))
  (.exit 6)))
  (.seqr [
  ⟨some 50, .op (.mov (.t 6)), none, 0, [], [], false⟩,
  ⟨some 51, .op (.build (bytesV (List.replicate 4 0)) [(0, 1, (.c (.int .u8 2))), (1, 1, (.c (.int .u8 3))), (2, 1, (.c (.int .u8 1))), (3, 1, (.c (.int .u8 1)))]), none, 1, [], [], false⟩,
  ⟨some 52, .call n_aes_block_mix [(.t 50), (.t 51)], none, 2, [], [], false⟩])))
  (.seq (.seqr [
  ⟨some 53, .op (.mov (.t 6)), none, 0, [], [], false⟩,
  ⟨some 54, .op (.mov (.t 9)), none, 1, [], [], false⟩,
  ⟨some 55, .op (.iaddr (some 11) 16 (.t 7) (.t 54)), none, 2, [], [], false⟩,
  ⟨some 56, .op (.load 16 true (.t 55)), none, 3, [], [], false⟩,
  ⟨some 57, .call n_aes_block_xor [(.t 53), (.t 56)], none, 4, [], [], false⟩])
  (.exit 4)))))))
  (.seqr [
  ⟨some 28, .op (.mov (.t 9)), none, 0, [], [], false⟩,
  ⟨some 29, .op (.bin .add (.t 28) (.c (.int .i64 1))), none, 1, [], [], false⟩,
  ⟨some 9, .op (.mov (.t 29)), none, 2, [], [], false⟩]))
def d_aes_Encrypt : DFun := ⟨62, [true, true], [.tmp 4, .tmp 5],
 .seq (.seqr [
  ⟨some 4, .op (.mov (.c .nils)), none, 0, [], [], false⟩,
  ⟨some 5, .op (.mov (.c (.int .i64 0))), none, 1, [], [], false⟩])
  (.seq (.seqr [
  ⟨some 13, .op (.mov (.t 0)), none, 0, [], [], false⟩,
  ⟨some 14, .op (.mov (.t 1)), none, 1, [], [], false⟩,
  ⟨some 15, .call n_aes_start [(.t 13), (.t 14)], none, 2, [], [], false⟩,
  ⟨some 12, .op (.mov (.t 15)), none, 3, [], [], false⟩,
  ⟨some 16, .op (.ext 0 (.t 12)), none, 4, [], [], false⟩,
  ⟨some 17, .op (.ext 1 (.t 12)), none, 5, [], [], false⟩,
  ⟨some 18, .op (.ext 2 (.t 12)), none, 6, [], [], false⟩,
  ⟨some 7, .op (.alloc (.row (List.replicate 11 (.agg (bytesV (List.replicate 16 0)))) 16)), none, 7, [], [], false⟩,
  ⟨some 6, .op (.mov (.t 16)), none, 8, [], [], false⟩,
  ⟨none, .op (.store 176 (.t 7) (.t 17)), none, 9, [], [], false⟩,
  ⟨some 8, .op (.mov (.t 18)), none, 10, [], [], false⟩])
  (.seq (.seq (.seqr [
  ⟨some 19, .op (.mov (.t 8)), none, 0, [], [], false⟩,
  ⟨some 20, .op (.bin .neq (.t 19) (.c (.int .i64 0))), none, 1, [], [], false⟩])
  (.cond (.t 20)
  (.seq (.seqr [
   ⟨some 21, .op (.mov (.t 8)), none, 0, [], [], false⟩,
   ⟨some 4, .op (.mov (.c .nils)), none, 1, [], [], false⟩,
   ⟨some 5, .op (.mov (.t 21)), none, 2, [], [], false⟩])
   (.ret))
  (.skip)))
  (.seq (.seqr [
  ⟨some 22, .op (.mov (.t 6)), none, 0, [], [], false⟩,
  ⟨some 23, .op (.iaddr (some 11) 16 (.t 7) (.c (.int .i64 0))), none, 1, [], [], false⟩,
  ⟨some 24, .op (.load 16 true (.t 23)), none, 2, [], [], false⟩,
  ⟨some 25, .call n_aes_block_xor [(.t 22), (.t 24)], none, 3, [], [], false⟩])
  (.seq (.seq (.seqr [
  ⟨some 9, .op (.mov (.c (.int .i64 1))), none, 0, [], [], false⟩])
  (.block 0 (.loop [6, 7, 8, 9] l_aes_Encrypt_1)))
  (.seq (.seqr [
  ⟨some 58, .op (.mov (.t 6)), none, 0, [], [], false⟩,
  ⟨some 59, .op (.nilchk (.t 58)), none, 1, [], [], false⟩,
  ⟨some 60, .op (.slcA 16 1 (.t 59) none none), none, 2, [], [], false⟩,
  ⟨some 61, .op (.mov (.t 8)), none, 3, [], [], false⟩,
  ⟨some 4, .op (.mov (.t 60)), none, 4, [], [], false⟩,
  ⟨some 5, .op (.mov (.t 61)), none, 5, [], [], false⟩])
  (.ret))))))⟩
/-! seneschal/seal.xor -/
def l_seal_xor_0 : DCode := .seq (.seqr [
  ⟨some 11, .op (.bin .lss (.t 10) (.t 9)), none, 0, [], [], false⟩])
  (.seq (.cond (.t 11)
  (.skip)
  (.exit 0))
  (.seq (.block 1 (.seq (.seqr [
  ⟨some 12, .op (.mov (.t 10)), none, 0, [], [], false⟩,
  ⟨some 6, .op (.mov (.t 12)), none, 1, [], [], false⟩])
  (.drwr [
  ⟨some 13, .op (.mov (.t 5)), none, 0, [], [], false⟩,
  ⟨some 14, .op (.mov (.t 6)), none, 1, [], [], false⟩,
  ⟨some 15, .op (.mov (.t 0)), none, 2, [], [], false⟩,
  ⟨some 16, .op (.mov (.t 6)), none, 3, [], [], false⟩,
  ⟨some 17, .op (.iaddr none 1 (.t 15) (.t 16)), none, 4, [], [], false⟩,
  ⟨some 18, .op (.load 1 false (.t 17)), none, 5, [], [], false⟩,
  ⟨some 19, .op (.mov (.t 1)), none, 6, [], [], false⟩,
  ⟨some 20, .op (.mov (.t 6)), none, 7, [], [], false⟩,
  ⟨some 21, .op (.iaddr none 1 (.t 19) (.t 20)), none, 8, [], [], false⟩,
  ⟨some 22, .op (.load 1 false (.t 21)), none, 9, [], [], false⟩,
  ⟨some 23, .op (.bin .xor (.t 18) (.t 22)), none, 10, [], [], false⟩,
  ⟨some 24, .op (.iaddr none 1 (.t 13) (.t 14)), none, 11, [], [], false⟩,
  ⟨none, .op (.store 1 (.t 24) (.t 23)), none, 12, [], [], false⟩])))
  (.seqr [
  ⟨some 25, .op (.bin .add (.t 10) (.c (.int .i64 1))), none, 0, [], [], false⟩,
  ⟨some 10, .op (.mov (.t 25)), none, 1, [], [], false⟩])))
def d_seal_xor : DFun := ⟨27, [true, true], [.tmp 4],
 .seq (.seqr [
  ⟨some 4, .op (.mov (.c .nils)), none, 0, [], [], false⟩])
  (.seq (.seqr [
  ⟨some 7, .op (.mksl 1 (.int .u8 0) 1 (.c (.int .i64 16)) (.c (.int .i64 16))), none, 0, [], [], false⟩,
  ⟨some 5, .op (.mov (.t 7)), none, 1, [], [], false⟩])
  (.seq (.seq (.seqr [
  ⟨some 8, .op (.mov (.t 5)), none, 0, [], [], false⟩,
  ⟨some 9, .op (.lenL (.t 8)), none, 1, [], [], false⟩,
  ⟨some 10, .op (.mov (.c (.int .i64 0))), none, 2, [], [], false⟩])
  (.block 0 (.loop [0, 1, 5, 9, 10] l_seal_xor_0)))
  (.seq (.seqr [
  ⟨some 26, .op (.mov (.t 5)), none, 0, [], [], false⟩,
  ⟨some 4, .op (.mov (.t 26)), none, 1, [], [], false⟩])
  (.ret))))⟩
end Go.Dm.T
