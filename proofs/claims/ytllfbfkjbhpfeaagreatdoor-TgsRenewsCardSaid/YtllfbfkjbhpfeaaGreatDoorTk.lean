/- That each of these codes is the translation of the program's function. -/
import Derived.Test.YtllfbfkjbhpfeaaGreatDoorTb
import Derived.Test.YtllfbfkjbhpfeaaGreatDoorChecked
import Derived.KernelRfl
set_option linter.unusedSimpArgs false
set_option linter.unusedVariables false
set_option linter.unusedSectionVars false
set_option maxRecDepth 100000
namespace Go.Dm.T
open Go Go.Dm Go.Proofs
def OkF (f : Nat) (F : DFun) : Prop := ∃ fn hint, Tryz.prog.funcs[f]? = some fn ∧ cFun Tryz.prog eqs F.lend hint fn = some F
theorem ok_law28_TgsRenews : OkF n_law28_TgsRenews d_law28_TgsRenews := ⟨Tryz.f6, d_law28_TgsRenews.body, Tryz.func6, by kernel_rfl⟩
theorem ok_law28_TgsVoid : OkF n_law28_TgsVoid d_law28_TgsVoid := ⟨Tryz.f8, d_law28_TgsVoid.body, Tryz.func8, by kernel_rfl⟩
theorem ok_law28_short : OkF n_law28_short d_law28_short := ⟨Tryz.f9, d_law28_short.body, Tryz.func9, by kernel_rfl⟩
theorem ok_tgs_Ask : OkF n_tgs_Ask d_tgs_Ask := ⟨Tryz.f10, d_tgs_Ask.body, Tryz.func10, by kernel_rfl⟩
theorem ok_tgs_Asked : OkF n_tgs_Asked d_tgs_Asked := ⟨Tryz.f13, d_tgs_Asked.body, Tryz.func13, by kernel_rfl⟩
theorem ok_base_Bytes : OkF n_base_Bytes d_base_Bytes := ⟨Tryz.f14, d_base_Bytes.body, Tryz.func14, by kernel_rfl⟩
theorem ok_tgs_Renewed : OkF n_tgs_Renewed d_tgs_Renewed := ⟨Tryz.f16, d_tgs_Renewed.body, Tryz.func16, by kernel_rfl⟩
theorem ok_base_SameBytes : OkF n_base_SameBytes d_base_SameBytes := ⟨Tryz.f18, d_base_SameBytes.body, Tryz.func18, by kernel_rfl⟩
theorem ok_law28_same : OkF n_law28_same d_law28_same := ⟨Tryz.f19, d_law28_same.body, Tryz.func19, by kernel_rfl⟩
theorem ok_law28_works : OkF n_law28_works d_law28_works := ⟨Tryz.f20, d_law28_works.body, Tryz.func20, by kernel_rfl⟩
theorem ok_law28_books : OkF n_law28_books d_law28_books := ⟨Tryz.f21, d_law28_books.body, Tryz.func21, by kernel_rfl⟩
theorem ok_tgs_Make : OkF n_tgs_Make d_tgs_Make := ⟨Tryz.f22, d_tgs_Make.body, Tryz.func22, by kernel_rfl⟩
theorem ok_tgs_Server_Grant : OkF n_tgs_Server_Grant d_tgs_Server_Grant := ⟨Tryz.f25, d_tgs_Server_Grant.body, Tryz.func25, by kernel_rfl⟩
theorem ok_base_Among : OkF n_base_Among d_base_Among := ⟨Tryz.f27, d_base_Among.body, Tryz.func27, by kernel_rfl⟩
theorem ok_law28_key : OkF n_law28_key d_law28_key := ⟨Tryz.f28, d_law28_key.body, Tryz.func28, by kernel_rfl⟩
theorem ok_ticket_Bytes : OkF n_ticket_Bytes d_ticket_Bytes := ⟨Tryz.f29, d_ticket_Bytes.body, Tryz.func29, by kernel_rfl⟩
theorem ok_ticket_Seal : OkF n_ticket_Seal d_ticket_Seal := ⟨Tryz.f30, d_ticket_Seal.body, Tryz.func30, by kernel_rfl⟩
theorem ok_tgs_Want_numbers : OkF n_tgs_Want_numbers d_tgs_Want_numbers := ⟨Tryz.f31, d_tgs_Want_numbers.body, Tryz.func31, by kernel_rfl⟩
theorem ok_wire_Int : OkF n_wire_Int d_wire_Int := ⟨Tryz.f32, d_wire_Int.body, Tryz.func32, by kernel_rfl⟩
theorem ok_wire_Put : OkF n_wire_Put d_wire_Put := ⟨Tryz.f33, d_wire_Put.body, Tryz.func33, by kernel_rfl⟩
theorem ok_wire_Read : OkF n_wire_Read d_wire_Read := ⟨Tryz.f38, d_wire_Read.body, Tryz.func38, by kernel_rfl⟩
theorem ok_wire_ReadInt : OkF n_wire_ReadInt d_wire_ReadInt := ⟨Tryz.f39, d_wire_ReadInt.body, Tryz.func39, by kernel_rfl⟩
theorem ok_tgs_times : OkF n_tgs_times d_tgs_times := ⟨Tryz.f42, d_tgs_times.body, Tryz.func42, by kernel_rfl⟩
theorem ok_law28_granting : OkF n_law28_granting d_law28_granting := ⟨Tryz.f44, d_law28_granting.body, Tryz.func44, by kernel_rfl⟩
theorem ok_who_Make : OkF n_who_Make d_who_Make := ⟨Tryz.f45, d_who_Make.body, Tryz.func45, by kernel_rfl⟩
theorem ok_ref19_Make : OkF n_ref19_Make d_ref19_Make := ⟨Tryz.f46, d_ref19_Make.body, Tryz.func46, by kernel_rfl⟩
theorem ok_who_Book_Add : OkF n_who_Book_Add d_who_Book_Add := ⟨Tryz.f47, d_who_Book_Add.body, Tryz.func47, by kernel_rfl⟩
theorem ok_ref19_Book_Add : OkF n_ref19_Book_Add d_ref19_Book_Add := ⟨Tryz.f48, d_ref19_Book_Add.body, Tryz.func48, by kernel_rfl⟩
theorem ok_who_Book_Find : OkF n_who_Book_Find d_who_Book_Find := ⟨Tryz.f49, d_who_Book_Find.body, Tryz.func49, by kernel_rfl⟩
theorem ok_cache_MakeReplay : OkF n_cache_MakeReplay d_cache_MakeReplay := ⟨Tryz.f50, d_cache_MakeReplay.body, Tryz.func50, by kernel_rfl⟩
theorem ok_tgs_opened : OkF n_tgs_opened d_tgs_opened := ⟨Tryz.f52, d_tgs_opened.body, Tryz.func52, by kernel_rfl⟩
theorem ok_errors_Is : OkF n_errors_Is d_errors_Is := ⟨Tryz.f53, d_errors_Is.body, Tryz.func53, by kernel_rfl⟩
theorem ok_tgs_Server_judge : OkF n_tgs_Server_judge d_tgs_Server_judge := ⟨Tryz.f54, d_tgs_Server_judge.body, Tryz.func54, by kernel_rfl⟩
theorem ok_ticket_look : OkF n_ticket_look d_ticket_look := ⟨Tryz.f61, d_ticket_look.body, Tryz.func61, by kernel_rfl⟩
theorem ok_ticket_number : OkF n_ticket_number d_ticket_number := ⟨Tryz.f62, d_ticket_number.body, Tryz.func62, by kernel_rfl⟩
theorem ok_ticket_value : OkF n_ticket_value d_ticket_value := ⟨Tryz.f63, d_ticket_value.body, Tryz.func63, by kernel_rfl⟩
theorem ok_ticket_right : OkF n_ticket_right d_ticket_right := ⟨Tryz.f64, d_ticket_right.body, Tryz.func64, by kernel_rfl⟩
theorem ok_seal_Seal : OkF n_seal_Seal d_seal_Seal := ⟨Tryz.f65, d_seal_Seal.body, Tryz.func65, by kernel_rfl⟩
theorem ok_wire_check : OkF n_wire_check d_wire_check := ⟨Tryz.f66, d_wire_check.body, Tryz.func66, by kernel_rfl⟩
theorem ok_wire_cut : OkF n_wire_cut d_wire_cut := ⟨Tryz.f71, d_wire_cut.body, Tryz.func71, by kernel_rfl⟩
theorem ok_who_Book_is : OkF n_who_Book_is d_who_Book_is := ⟨Tryz.f72, d_who_Book_is.body, Tryz.func72, by kernel_rfl⟩
theorem ok_who_named : OkF n_who_named d_who_named := ⟨Tryz.f73, d_who_named.body, Tryz.func73, by kernel_rfl⟩
theorem ok_who_times : OkF n_who_times d_who_times := ⟨Tryz.f74, d_who_times.body, Tryz.func74, by kernel_rfl⟩
theorem ok_who_Person_own : OkF n_who_Person_own d_who_Person_own := ⟨Tryz.f75, d_who_Person_own.body, Tryz.func75, by kernel_rfl⟩
theorem ok_ref19_Name : OkF n_ref19_Name d_ref19_Name := ⟨Tryz.f76, d_ref19_Name.body, Tryz.func76, by kernel_rfl⟩
theorem ok_ref19_time : OkF n_ref19_time d_ref19_time := ⟨Tryz.f77, d_ref19_time.body, Tryz.func77, by kernel_rfl⟩
theorem ok_ref19_Book_Find : OkF n_ref19_Book_Find d_ref19_Book_Find := ⟨Tryz.f78, d_ref19_Book_Find.body, Tryz.func78, by kernel_rfl⟩
theorem ok_cache_right : OkF n_cache_right d_cache_right := ⟨Tryz.f79, d_cache_right.body, Tryz.func79, by kernel_rfl⟩
theorem ok_cache_times : OkF n_cache_times d_cache_times := ⟨Tryz.f80, d_cache_times.body, Tryz.func80, by kernel_rfl⟩
theorem ok_ticket_Read : OkF n_ticket_Read d_ticket_Read := ⟨Tryz.f83, d_ticket_Read.body, Tryz.func83, by kernel_rfl⟩
theorem ok_ticket_Open : OkF n_ticket_Open d_ticket_Open := ⟨Tryz.f84, d_ticket_Open.body, Tryz.func84, by kernel_rfl⟩
theorem ok_errors_Join : OkF n_errors_Join d_errors_Join := ⟨Tryz.f85, d_errors_Join.body, Tryz.func85, by kernel_rfl⟩
theorem ok_errors_is : OkF n_errors_is d_errors_is := ⟨Tryz.f87, d_errors_is.body, Tryz.func87, by kernel_rfl⟩
theorem ok_ticket_Judge : OkF n_ticket_Judge d_ticket_Judge := ⟨Tryz.f88, d_ticket_Judge.body, Tryz.func88, by kernel_rfl⟩
theorem ok_strconv_Itoa_89 : OkF n_strconv_Itoa_89 d_strconv_Itoa_89 := ⟨Tryz.f89, d_strconv_Itoa_89.body, Tryz.func89, by kernel_rfl⟩
theorem ok_tgs_Server_fresh : OkF n_tgs_Server_fresh d_tgs_Server_fresh := ⟨Tryz.f91, d_tgs_Server_fresh.body, Tryz.func91, by kernel_rfl⟩
theorem ok_ticket_names : OkF n_ticket_names d_ticket_names := ⟨Tryz.f97, d_ticket_names.body, Tryz.func97, by kernel_rfl⟩
theorem ok_ticket_times : OkF n_ticket_times d_ticket_times := ⟨Tryz.f98, d_ticket_times.body, Tryz.func98, by kernel_rfl⟩
theorem ok_seal_keys : OkF n_seal_keys d_seal_keys := ⟨Tryz.f99, d_seal_keys.body, Tryz.func99, by kernel_rfl⟩
theorem ok_seal_pair_chain : OkF n_seal_pair_chain d_seal_pair_chain := ⟨Tryz.f100, d_seal_pair_chain.body, Tryz.func100, by kernel_rfl⟩
theorem ok_seal_swap : OkF n_seal_swap d_seal_swap := ⟨Tryz.f101, d_seal_swap.body, Tryz.func101, by kernel_rfl⟩
theorem ok_seal_pair_tag : OkF n_seal_pair_tag d_seal_pair_tag := ⟨Tryz.f102, d_seal_pair_tag.body, Tryz.func102, by kernel_rfl⟩
theorem ok_slices_ContainsFunc___int_int_ : OkF n_slices_ContainsFunc___int_int_ d_slices_ContainsFunc___int_int_ := ⟨Tryz.f109, d_slices_ContainsFunc___int_int_.body, Tryz.func109, by kernel_rfl⟩
theorem ok_cache_times_1 : OkF n_cache_times_1 d_cache_times_1 := ⟨Tryz.f110, d_cache_times_1.body, Tryz.func110, by kernel_rfl⟩
theorem ok_ticket_fields : OkF n_ticket_fields d_ticket_fields := ⟨Tryz.f111, d_ticket_fields.body, Tryz.func111, by kernel_rfl⟩
theorem ok_ticket_numbers : OkF n_ticket_numbers d_ticket_numbers := ⟨Tryz.f112, d_ticket_numbers.body, Tryz.func112, by kernel_rfl⟩
theorem ok_seal_Open : OkF n_seal_Open d_seal_Open := ⟨Tryz.f113, d_seal_Open.body, Tryz.func113, by kernel_rfl⟩
theorem ok_ticket_late : OkF n_ticket_late d_ticket_late := ⟨Tryz.f114, d_ticket_late.body, Tryz.func114, by kernel_rfl⟩
theorem ok_strconv_Itoa_115 : OkF n_strconv_Itoa_115 d_strconv_Itoa_115 := ⟨Tryz.f115, d_strconv_Itoa_115.body, Tryz.func115, by kernel_rfl⟩
theorem ok_cache_Replay_is : OkF n_cache_Replay_is d_cache_Replay_is := ⟨Tryz.f116, d_cache_Replay_is.body, Tryz.func116, by kernel_rfl⟩
theorem ok_cache_Replay_Has : OkF n_cache_Replay_Has d_cache_Replay_Has := ⟨Tryz.f117, d_cache_Replay_Has.body, Tryz.func117, by kernel_rfl⟩
theorem ok_who_Book_Grant : OkF n_who_Book_Grant d_who_Book_Grant := ⟨Tryz.f118, d_who_Book_Grant.body, Tryz.func118, by kernel_rfl⟩
theorem ok_tgs_trim : OkF n_tgs_trim d_tgs_trim := ⟨Tryz.f119, d_tgs_trim.body, Tryz.func119, by kernel_rfl⟩
theorem ok_mac_Expand : OkF n_mac_Expand d_mac_Expand := ⟨Tryz.f123, d_mac_Expand.body, Tryz.func123, by kernel_rfl⟩
theorem ok_aes_Encrypt : OkF n_aes_Encrypt d_aes_Encrypt := ⟨Tryz.f124, d_aes_Encrypt.body, Tryz.func124, by kernel_rfl⟩
theorem ok_seal_xor : OkF n_seal_xor d_seal_xor := ⟨Tryz.f125, d_seal_xor.body, Tryz.func125, by kernel_rfl⟩
theorem ok_mac_Sum : OkF n_mac_Sum d_mac_Sum := ⟨Tryz.f126, d_mac_Sum.body, Tryz.func126, by kernel_rfl⟩
theorem ok_slices_IndexFunc___int_int_ : OkF n_slices_IndexFunc___int_int_ d_slices_IndexFunc___int_int_ := ⟨Tryz.f137, d_slices_IndexFunc___int_int_.body, Tryz.func137, by kernel_rfl⟩
theorem ok_seal_look : OkF n_seal_look d_seal_look := ⟨Tryz.f138, d_seal_look.body, Tryz.func138, by kernel_rfl⟩
theorem ok_seal_pair_whole : OkF n_seal_pair_whole d_seal_pair_whole := ⟨Tryz.f140, d_seal_pair_whole.body, Tryz.func140, by kernel_rfl⟩
theorem ok_aes_Decrypt : OkF n_aes_Decrypt d_aes_Decrypt := ⟨Tryz.f141, d_aes_Decrypt.body, Tryz.func141, by kernel_rfl⟩
theorem ok_strconv_FormatInt : OkF n_strconv_FormatInt d_strconv_FormatInt := ⟨Tryz.f142, d_strconv_FormatInt.body, Tryz.func142, by kernel_rfl⟩
theorem ok_who_refused : OkF n_who_refused d_who_refused := ⟨Tryz.f143, d_who_refused.body, Tryz.func143, by kernel_rfl⟩
theorem ok_aes_start : OkF n_aes_start d_aes_start := ⟨Tryz.f144, d_aes_start.body, Tryz.func144, by kernel_rfl⟩
theorem ok_aes_block_xor : OkF n_aes_block_xor d_aes_block_xor := ⟨Tryz.f145, d_aes_block_xor.body, Tryz.func145, by kernel_rfl⟩
theorem ok_aes_box : OkF n_aes_box d_aes_box := ⟨Tryz.f146, d_aes_box.body, Tryz.func146, by kernel_rfl⟩
theorem ok_aes_block_turn : OkF n_aes_block_turn d_aes_block_turn := ⟨Tryz.f147, d_aes_block_turn.body, Tryz.func147, by kernel_rfl⟩
theorem ok_aes_block_mix : OkF n_aes_block_mix d_aes_block_mix := ⟨Tryz.f148, d_aes_block_mix.body, Tryz.func148, by kernel_rfl⟩
theorem ok_sha_Parts : OkF n_sha_Parts d_sha_Parts := ⟨Tryz.f149, d_sha_Parts.body, Tryz.func149, by kernel_rfl⟩
theorem ok_mac_padded : OkF n_mac_padded d_mac_padded := ⟨Tryz.f150, d_mac_padded.body, Tryz.func150, by kernel_rfl⟩
theorem ok_mac_Same : OkF n_mac_Same d_mac_Same := ⟨Tryz.f156, d_mac_Same.body, Tryz.func156, by kernel_rfl⟩
theorem ok_aes_back : OkF n_aes_back d_aes_back := ⟨Tryz.f157, d_aes_back.body, Tryz.func157, by kernel_rfl⟩
theorem ok_strconv_small : OkF n_strconv_small d_strconv_small := ⟨Tryz.f158, d_strconv_small.body, Tryz.func158, by kernel_rfl⟩
theorem ok_aes_Keys : OkF n_aes_Keys d_aes_Keys := ⟨Tryz.f162, d_aes_Keys.body, Tryz.func162, by kernel_rfl⟩
theorem ok_aes_Times : OkF n_aes_Times d_aes_Times := ⟨Tryz.f163, d_aes_Times.body, Tryz.func163, by kernel_rfl⟩
theorem ok_sha_Sum : OkF n_sha_Sum d_sha_Sum := ⟨Tryz.f164, d_sha_Sum.body, Tryz.func164, by kernel_rfl⟩
theorem ok_aes_twice : OkF n_aes_twice d_aes_twice := ⟨Tryz.f173, d_aes_twice.body, Tryz.func173, by kernel_rfl⟩
theorem ok_sha_first : OkF n_sha_first d_sha_first := ⟨Tryz.f174, d_sha_first.body, Tryz.func174, by kernel_rfl⟩
theorem ok_sha_Pad : OkF n_sha_Pad d_sha_Pad := ⟨Tryz.f175, d_sha_Pad.body, Tryz.func175, by kernel_rfl⟩
theorem ok_sha_Block : OkF n_sha_Block d_sha_Block := ⟨Tryz.f176, d_sha_Block.body, Tryz.func176, by kernel_rfl⟩
theorem ok_sha_words : OkF n_sha_words d_sha_words := ⟨Tryz.f183, d_sha_words.body, Tryz.func183, by kernel_rfl⟩
theorem ok_sha_right : OkF n_sha_right d_sha_right := ⟨Tryz.f184, d_sha_right.body, Tryz.func184, by kernel_rfl⟩
theorem ok_math_bits_RotateLeft32 : OkF n_math_bits_RotateLeft32 d_math_bits_RotateLeft32 := ⟨Tryz.f185, d_math_bits_RotateLeft32.body, Tryz.func185, by kernel_rfl⟩
theorem ok_ticket_bad_Unwrap : OkF n_ticket_bad_Unwrap d_ticket_bad_Unwrap := ⟨Tryz.f206, d_ticket_bad_Unwrap.body, Tryz.func206, by kernel_rfl⟩
theorem ok_errors_joinError_Unwrap : OkF n_errors_joinError_Unwrap d_errors_joinError_Unwrap := ⟨Tryz.f209, d_errors_joinError_Unwrap.body, Tryz.func209, by kernel_rfl⟩
theorem ok_all : fnTree.all OkF := ⟨⟨⟨⟨⟨⟨trivial,
       ⟨trivial,
        ⟨trivial,
         ok_law28_TgsRenews⟩⟩⟩,
      ⟨⟨trivial,
        ⟨ok_law28_TgsVoid,
         ok_law28_short⟩⟩,
       ⟨⟨ok_tgs_Ask,
         trivial⟩,
        ⟨trivial,
         ok_tgs_Asked⟩⟩⟩⟩,
     ⟨⟨⟨ok_base_Bytes,
        ⟨trivial,
         ok_tgs_Renewed⟩⟩,
       ⟨⟨trivial,
         ok_base_SameBytes⟩,
        ⟨ok_law28_same,
         ok_law28_works⟩⟩⟩,
      ⟨⟨⟨ok_law28_books,
         ok_tgs_Make⟩,
        trivial⟩,
       ⟨⟨ok_tgs_Server_Grant,
         trivial⟩,
        ⟨ok_base_Among,
         ok_law28_key⟩⟩⟩⟩⟩,
    ⟨⟨⟨⟨ok_ticket_Bytes,
        ⟨ok_ticket_Seal,
         ok_tgs_Want_numbers⟩⟩,
       ⟨⟨ok_wire_Int,
         ok_wire_Put⟩,
        trivial⟩⟩,
      ⟨⟨trivial,
        ⟨trivial,
         ok_wire_Read⟩⟩,
       ⟨⟨ok_wire_ReadInt,
         trivial⟩,
        ⟨trivial,
         ok_tgs_times⟩⟩⟩⟩,
     ⟨⟨⟨trivial,
        ⟨ok_law28_granting,
         ok_who_Make⟩⟩,
       ⟨⟨ok_ref19_Make,
         ok_who_Book_Add⟩,
        ⟨ok_ref19_Book_Add,
         ok_who_Book_Find⟩⟩⟩,
      ⟨⟨⟨ok_cache_MakeReplay,
         trivial⟩,
        ⟨ok_tgs_opened,
         ok_errors_Is⟩⟩,
       ⟨⟨ok_tgs_Server_judge,
         trivial⟩,
        trivial⟩⟩⟩⟩⟩,
   ⟨⟨⟨⟨trivial,
       ⟨⟨ok_ticket_look,
         ok_ticket_number⟩,
        ⟨ok_ticket_value,
         ok_ticket_right⟩⟩⟩,
      ⟨⟨ok_seal_Seal,
        ⟨ok_wire_check,
         trivial⟩⟩,
       ⟨trivial,
        ⟨trivial,
         ok_wire_cut⟩⟩⟩⟩,
     ⟨⟨⟨ok_who_Book_is,
        ⟨ok_who_named,
         ok_who_times⟩⟩,
       ⟨⟨ok_who_Person_own,
         ok_ref19_Name⟩,
        ⟨ok_ref19_time,
         ok_ref19_Book_Find⟩⟩⟩,
      ⟨⟨⟨ok_cache_right,
         ok_cache_times⟩,
        trivial⟩,
       ⟨⟨ok_ticket_Read,
         ok_ticket_Open⟩,
        ⟨ok_errors_Join,
         trivial⟩⟩⟩⟩⟩,
    ⟨⟨⟨⟨ok_errors_is,
        ⟨ok_ticket_Judge,
         ok_strconv_Itoa_89⟩⟩,
       ⟨⟨trivial,
         ok_tgs_Server_fresh⟩,
        trivial⟩⟩,
      ⟨⟨trivial,
        ⟨trivial,
         ok_ticket_names⟩⟩,
       ⟨⟨ok_ticket_times,
         ok_seal_keys⟩,
        ⟨ok_seal_pair_chain,
         ok_seal_swap⟩⟩⟩⟩,
     ⟨⟨⟨ok_seal_pair_tag,
        trivial⟩,
       trivial⟩,
      ⟨⟨⟨ok_slices_ContainsFunc___int_int_,
         ok_cache_times_1⟩,
        ⟨ok_ticket_fields,
         ok_ticket_numbers⟩⟩,
       ⟨⟨ok_seal_Open,
         ok_ticket_late⟩,
        ⟨ok_strconv_Itoa_115,
         ok_cache_Replay_is⟩⟩⟩⟩⟩⟩⟩,
  ⟨⟨⟨⟨⟨⟨ok_cache_Replay_Has,
        ⟨ok_who_Book_Grant,
         ok_tgs_trim⟩⟩,
       ⟨trivial,
        ⟨trivial,
         ok_mac_Expand⟩⟩⟩,
      ⟨⟨ok_aes_Encrypt,
        ⟨ok_seal_xor,
         ok_mac_Sum⟩⟩,
       trivial⟩⟩,
     ⟨⟨trivial,
       ⟨trivial,
        ⟨trivial,
         ok_slices_IndexFunc___int_int_⟩⟩⟩,
      ⟨⟨⟨ok_seal_look,
         trivial⟩,
        ⟨ok_seal_pair_whole,
         ok_aes_Decrypt⟩⟩,
       ⟨⟨ok_strconv_FormatInt,
         ok_who_refused⟩,
        ⟨ok_aes_start,
         ok_aes_block_xor⟩⟩⟩⟩⟩,
    ⟨⟨⟨⟨ok_aes_box,
        ⟨ok_aes_block_turn,
         ok_aes_block_mix⟩⟩,
       ⟨⟨ok_sha_Parts,
         ok_mac_padded⟩,
        trivial⟩⟩,
      ⟨⟨trivial,
        ⟨trivial,
         ok_mac_Same⟩⟩,
       ⟨⟨ok_aes_back,
         ok_strconv_small⟩,
        trivial⟩⟩⟩,
     ⟨⟨⟨trivial,
        ⟨ok_aes_Keys,
         ok_aes_Times⟩⟩,
       ⟨⟨ok_sha_Sum,
         trivial⟩,
        trivial⟩⟩,
      ⟨trivial,
       ⟨⟨trivial,
         ok_aes_twice⟩,
        ⟨ok_sha_first,
         ok_sha_Pad⟩⟩⟩⟩⟩⟩,
   ⟨⟨⟨⟨⟨ok_sha_Block,
        trivial⟩,
       trivial⟩,
      ⟨⟨ok_sha_words,
        ⟨ok_sha_right,
         ok_math_bits_RotateLeft32⟩⟩,
       trivial⟩⟩,
     trivial⟩,
    ⟨⟨⟨⟨trivial,
        ⟨ok_ticket_bad_Unwrap,
         trivial⟩⟩,
       ⟨⟨trivial,
         ok_errors_joinError_Unwrap⟩,
        trivial⟩⟩,
      trivial⟩,
     trivial⟩⟩⟩⟩
end Go.Dm.T
