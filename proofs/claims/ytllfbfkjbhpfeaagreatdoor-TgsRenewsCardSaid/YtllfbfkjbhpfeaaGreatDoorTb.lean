/- The program's functions as the abstract machine's code, the rest, and the table of them. -/
import Derived.Test.YtllfbfkjbhpfeaaGreatDoorTa
import Derived.Test.YtllfbfkjbhpfeaaGreatDoorDc
set_option linter.unusedSimpArgs false
set_option linter.unusedVariables false
set_option linter.unusedSectionVars false
set_option maxRecDepth 100000
namespace Go.Dm.T
/-! seneschal/mac.Sum -/
def d_mac_Sum : DFun := ⟨16, [true, true], [.cell 4 32 true],
 .seq (.seqr [
  ⟨some 4, .op (.alloc (.row (bytesV (List.replicate 32 0)) 1)), none, 0, [], [], false⟩])
  (.seq (.seqr [
  ⟨some 6, .op (.mov (.t 0)), none, 0, [], [], false⟩,
  ⟨some 7, .call n_mac_padded [(.t 6), (.c (.int .u8 54))], none, 1, [], [], false⟩,
  ⟨some 8, .op (.mov (.t 1)), none, 2, [], [], false⟩,
  ⟨some 9, .op (.bsl 1 [.nils, .nils] [(0, (.t 7)), (1, (.t 8))]), none, 3, [], [], false⟩,
  ⟨some 10, .call n_sha_Parts [(.t 9)], none, 4, [], [], false⟩,
  ⟨some 5, .op (.alloc (.row (bytesV (List.replicate 32 0)) 1)), none, 5, [], [], false⟩,
  ⟨none, .op (.store 32 (.t 5) (.t 10)), none, 6, [], [], false⟩])
  (.seq (.drwr [
  ⟨some 11, .op (.mov (.t 0)), none, 0, [], [], false⟩,
  ⟨some 12, .call n_mac_padded [(.t 11), (.c (.int .u8 92))], none, 1, [], [], false⟩,
  ⟨some 13, .op (.slcA 32 1 (.t 5) none none), none, 2, [], [1], false⟩,
  ⟨some 14, .op (.bsl 1 [.nils, .nils] [(0, (.t 12)), (1, (.t 13))]), none, 3, [1], [], false⟩,
  ⟨some 15, .call n_sha_Parts [(.t 14)], none, 4, [1, 3], [], false⟩,
  ⟨none, .op (.store 32 (.t 4) (.t 15)), none, 5, [1, 3, 4], [], false⟩])
  (.ret)))⟩
/-! slices.IndexFunc[[]int,int] -/
def l_slices_IndexFunc___int_int__0 : DCode := .seq (.seqr [
  ⟨some 9, .op (.bin .lss (.t 8) (.t 7)), none, 0, [], [], false⟩])
  (.seq (.cond (.t 9)
  (.skip)
  (.exit 0))
  (.seq (.block 1 (.seq (.seqr [
  ⟨some 10, .op (.mov (.t 8)), none, 0, [], [], false⟩,
  ⟨some 5, .op (.mov (.t 10)), none, 1, [], [], false⟩])
  (.seq (.seqr [
  ⟨some 11, .op (.mov (.t 1)), none, 0, [], [], false⟩,
  ⟨some 12, .op (.mov (.t 0)), none, 1, [], [], false⟩,
  ⟨some 13, .op (.mov (.t 5)), none, 2, [], [], false⟩,
  ⟨some 14, .op (.iaddr none 1 (.t 12) (.t 13)), none, 3, [], [], false⟩,
  ⟨some 15, .op (.load 1 false (.t 14)), none, 4, [], [], false⟩,
  ⟨some 16, .callv (.t 11) [(.t 15)], none, 5, [], [], false⟩])
  (.cond (.t 16)
  (.seq (.seqr [
   ⟨some 17, .op (.mov (.t 5)), none, 0, [], [], false⟩,
   ⟨some 4, .op (.mov (.t 17)), none, 1, [], [], false⟩])
   (.ret))
  (.skip)))))
  (.seqr [
  ⟨some 18, .op (.bin .add (.t 8) (.c (.int .i64 1))), none, 0, [], [], false⟩,
  ⟨some 8, .op (.mov (.t 18)), none, 1, [], [], false⟩])))
def d_slices_IndexFunc___int_int_ : DFun := ⟨19, [true, false], [.tmp 4],
 .seq (.seqr [
  ⟨some 4, .op (.mov (.c (.int .i64 0))), none, 0, [], [], false⟩])
  (.seq (.seq (.seqr [
  ⟨some 6, .op (.mov (.t 0)), none, 0, [], [], false⟩,
  ⟨some 7, .op (.lenL (.t 6)), none, 1, [], [], false⟩,
  ⟨some 8, .op (.mov (.c (.int .i64 0))), none, 2, [], [], false⟩])
  (.block 0 (.loop [0, 1, 7, 8] l_slices_IndexFunc___int_int__0)))
  (.seq (.seqr [
  ⟨some 4, .op (.mov (.c (.int .i64 (-1)))), none, 0, [], [], false⟩])
  (.ret)))⟩
/-! seneschal/seal.look -/
def d_seal_look : DFun := ⟨52, [true, true, true], [.cell 6 2 true, .tmp 7],
 .seq (.seqr [
  ⟨some 6, .op (.alloc (.box [.nils, .nils])), none, 0, [], [], false⟩,
  ⟨some 7, .op (.mov (.c .nili)), none, 1, [], [], false⟩])
  (.seq (.seqr [
  ⟨some 12, .op (.mov (.t 0)), none, 0, [], [], false⟩,
  ⟨some 13, .op (.mov (.t 1)), none, 1, [], [], false⟩,
  ⟨some 14, .call n_seal_keys [(.t 12), (.t 13)], none, 2, [], [], false⟩,
  ⟨some 11, .op (.mov (.t 14)), none, 3, [], [], false⟩,
  ⟨some 15, .op (.ext 0 (.t 11)), none, 4, [], [], false⟩,
  ⟨some 16, .op (.ext 1 (.t 11)), none, 5, [], [], false⟩,
  ⟨some 8, .op (.alloc (.box [.nils, .nils])), none, 6, [], [], false⟩,
  ⟨none, .op (.store 2 (.t 8) (.t 15)), none, 7, [], [], false⟩,
  ⟨some 9, .op (.mov (.t 16)), none, 8, [], [], false⟩])
  (.seq (.seqr [
  ⟨some 17, .op (.mov (.t 2)), none, 0, [], [], false⟩,
  ⟨some 18, .op (.lenL (.t 17)), none, 1, [], [], false⟩,
  ⟨some 19, .op (.bin .sub (.t 18) (.c (.int .i64 16))), none, 2, [], [], false⟩,
  ⟨some 10, .op (.mov (.t 19)), none, 3, [], [], false⟩])
  (.seq (.block 0 (.seq (.seqr [
  ⟨some 21, .op (.mov (.t 9)), none, 0, [], [], false⟩,
  ⟨some 22, .op (.eqv 3 true true [t_api_Errno, t_reflectlite_flag, t_abi_Kind] (.t 21) (.c .nili)), none, 1, [], [], false⟩,
  ⟨some 20, .op (.mov (.t 22)), none, 2, [], [], false⟩])
  (.cond (.t 20)
  (.seq (.seqr [
   ⟨some 23, .op (.load 2 true (.t 8)), none, 0, [], [], false⟩,
   ⟨some 24, .op (.mov (.t 9)), none, 1, [], [], false⟩,
   ⟨none, .op (.store 2 (.t 6) (.t 23)), none, 2, [], [], false⟩,
   ⟨some 7, .op (.mov (.t 24)), none, 3, [], [], false⟩])
   (.ret))
  (.seq (.seqr [
   ⟨some 26, .op (.mov (.t 10)), none, 0, [], [], false⟩,
   ⟨some 27, .op (.bin .lss (.t 26) (.c (.int .i64 16))), none, 1, [], [], false⟩,
   ⟨some 25, .op (.mov (.t 27)), none, 2, [], [], false⟩])
   (.cond (.t 25)
   (.seq (.seqr [
    ⟨some 28, .op (.load 2 true (.t 8)), none, 0, [], [], false⟩,
    ⟨some 29, .op (.build [(.str []), (.int .i64 0)] [(0, 1, (.c (.str [111, 112, 101, 110]))), (1, 1, (.c (.int .i64 7)))]), none, 1, [], [], false⟩,
    ⟨some 30, .op (.mki t_seal_refusal (.t 29)), none, 2, [], [], false⟩,
    ⟨none, .op (.store 2 (.t 6) (.t 28)), none, 3, [], [], false⟩,
    ⟨some 7, .op (.mov (.t 30)), none, 4, [], [], false⟩])
    (.ret))
   (.seq (.seqr [
    ⟨some 32, .op (.mov (.t 10)), none, 0, [], [], false⟩,
    ⟨some 33, .op (.bin .gtr (.t 32) (.c (.int .i64 4112))), none, 1, [], [], false⟩,
    ⟨some 31, .op (.mov (.t 33)), none, 2, [], [], false⟩])
    (.cond (.t 31)
    (.seq (.seqr [
     ⟨some 34, .op (.load 2 true (.t 8)), none, 0, [], [], false⟩,
     ⟨some 35, .op (.build [(.str []), (.int .i64 0)] [(0, 1, (.c (.str [111, 112, 101, 110]))), (1, 1, (.c (.int .i64 3)))]), none, 1, [], [], false⟩,
     ⟨some 36, .op (.mki t_seal_refusal (.t 35)), none, 2, [], [], false⟩,
     ⟨none, .op (.store 2 (.t 6) (.t 34)), none, 3, [], [], false⟩,
     ⟨some 7, .op (.mov (.t 36)), none, 4, [], [], false⟩])
     (.ret))
    (.seq (.drwr [
     ⟨some 38, .op (.load 2 true (.t 8)), none, 0, [], [], false⟩,
     ⟨some 39, .op (.mov (.t 2)), none, 1, [], [], false⟩,
     ⟨some 40, .op (.mov (.t 10)), none, 2, [], [], false⟩,
     ⟨some 41, .op (.slcL 1 (.t 39) none (some (.t 40))), none, 3, [], [], false⟩,
     ⟨some 42, .call n_seal_pair_tag [(.t 38), (.t 41)], none, 4, [], [], false⟩,
     ⟨some 43, .op (.mov (.t 2)), none, 5, [], [], false⟩,
     ⟨some 44, .op (.mov (.t 10)), none, 6, [], [], false⟩,
     ⟨some 45, .op (.slcL 1 (.t 43) (some (.t 44)) none), none, 7, [], [4], false⟩,
     ⟨some 46, .call n_mac_Same [(.t 42), (.t 45)], none, 8, [4], [], false⟩,
     ⟨some 47, .op (.un .not (.t 46)), none, 9, [], [], false⟩,
     ⟨some 37, .op (.mov (.t 47)), none, 10, [], [], false⟩])
     (.cond (.t 37)
     (.seq (.seqr [
      ⟨some 48, .op (.load 2 true (.t 8)), none, 0, [], [], false⟩,
      ⟨some 49, .op (.build [(.str []), (.int .i64 0)] [(0, 1, (.c (.str [111, 112, 101, 110]))), (1, 1, (.c (.int .i64 70)))]), none, 1, [], [], false⟩,
      ⟨some 50, .op (.mki t_seal_refusal (.t 49)), none, 2, [], [], false⟩,
      ⟨none, .op (.store 2 (.t 6) (.t 48)), none, 3, [], [], false⟩,
      ⟨some 7, .op (.mov (.t 50)), none, 4, [], [], false⟩])
      (.ret))
     (.skip))))))))))
  (.seq (.seqr [
  ⟨some 51, .op (.load 2 true (.t 8)), none, 0, [], [], false⟩,
  ⟨none, .op (.store 2 (.t 6) (.t 51)), none, 1, [], [], false⟩,
  ⟨some 7, .op (.mov (.c .nili)), none, 2, [], [], false⟩])
  (.ret)))))⟩
/-! (seneschal/seal.pair).whole -/
def d_seal_pair_whole : DFun := ⟨43, [true, true], [.tmp 4],
 .seq (.seqr [
  ⟨some 2, .op (.box 0 (.t 0)), none, 0, [], [], false⟩,
  ⟨some 4, .op (.mov (.c .nils)), none, 1, [], [], false⟩])
  (.seq (.seqr [
  ⟨some 10, .op (.bsl 1 [] []), none, 0, [], [], false⟩,
  ⟨some 11, .op (.mov (.t 1)), none, 1, [], [], false⟩,
  ⟨some 12, .op (.app 1 1 (.t 10) (.t 11)), none, 2, [], [], false⟩,
  ⟨some 5, .op (.mov (.t 12)), none, 3, [], [], false⟩])
  (.seq (.seqr [
  ⟨some 13, .op (.mov (.t 5)), none, 0, [], [], false⟩,
  ⟨some 14, .op (.lenL (.t 13)), none, 1, [], [], false⟩,
  ⟨some 15, .op (.bin .rem (.t 14) (.c (.int .i64 16))), none, 2, [], [], false⟩,
  ⟨some 6, .op (.mov (.t 15)), none, 3, [], [], false⟩])
  (.seq (.block 0 (.seq (.block 2 (.seq (.block 1 (.seq (.seq (.seqr [
  ⟨some 17, .op (.mov (.t 6)), none, 0, [], [], false⟩,
  ⟨some 18, .op (.bin .gtr (.t 17) (.c (.int .i64 0))), none, 1, [], [], false⟩,
  ⟨some 16, .op (.mov (.t 18)), none, 2, [], [], false⟩])
  (.cond (.t 16)
  (.exit 1)
  (.skip)))
  (.exit 2)))
  (.seq (.seqr [
  ⟨some 19, .op (.mov (.t 5)), none, 0, [], [], false⟩,
  ⟨some 20, .op (.lenL (.t 19)), none, 1, [], [], false⟩,
  ⟨some 21, .op (.mov (.t 6)), none, 2, [], [], false⟩,
  ⟨some 22, .op (.bin .sub (.t 20) (.t 21)), none, 3, [], [], false⟩,
  ⟨some 23, .op (.bin .sub (.t 22) (.c (.int .i64 16))), none, 4, [], [], false⟩,
  ⟨some 7, .op (.mov (.t 23)), none, 5, [], [], false⟩])
  (.seq (.drwr [
  ⟨some 25, .op (.faddr 0 (.t 2)), none, 0, [], [], false⟩,
  ⟨some 26, .op (.load 1 false (.t 25)), none, 1, [], [], false⟩,
  ⟨some 27, .op (.mov (.t 5)), none, 2, [], [], false⟩,
  ⟨some 28, .op (.mov (.t 7)), none, 3, [], [], false⟩,
  ⟨some 29, .op (.mov (.t 7)), none, 4, [], [], false⟩,
  ⟨some 30, .op (.bin .add (.t 29) (.c (.int .i64 16))), none, 5, [], [], false⟩,
  ⟨some 31, .op (.slcL 1 (.t 27) (some (.t 28)) (some (.t 30))), none, 6, [], [], false⟩,
  ⟨some 32, .call n_aes_Decrypt [(.t 26), (.t 31)], none, 7, [], [], false⟩,
  ⟨some 24, .op (.mov (.t 32)), none, 8, [], [], false⟩,
  ⟨some 33, .op (.ext 0 (.t 24)), none, 9, [], [], false⟩,
  ⟨some 34, .op (.ext 1 (.t 24)), none, 10, [], [], false⟩,
  ⟨some 8, .op (.mov (.t 33)), none, 11, [], [], false⟩,
  ⟨some 9, .op (.mov (.t 34)), none, 12, [], [], false⟩])
  (.seqr [
  ⟨some 35, .op (.mov (.t 5)), none, 0, [], [], false⟩,
  ⟨some 36, .op (.mov (.t 8)), none, 1, [], [], false⟩,
  ⟨some 37, .op (.mov (.t 6)), none, 2, [], [], false⟩,
  ⟨some 38, .op (.slcL 1 (.t 36) (some (.t 37)) none), none, 3, [], [], false⟩,
  ⟨some 39, .op (.app 1 1 (.t 35) (.t 38)), none, 4, [], [], false⟩,
  ⟨some 5, .op (.mov (.t 39)), none, 5, [], [], false⟩])))))
  (.seq (.seqr [
  ⟨some 40, .op (.mov (.t 5)), none, 0, [], [], false⟩,
  ⟨some 41, .call n_seal_swap [(.t 40)], none, 1, [], [], false⟩])
  (.exit 0))))
  (.seq (.seqr [
  ⟨some 42, .op (.mov (.t 5)), none, 0, [], [], false⟩,
  ⟨some 4, .op (.mov (.t 42)), none, 1, [], [], false⟩])
  (.ret)))))⟩
/-! seneschal/aes.Decrypt -/
def l_aes_Decrypt_0 : DCode := .seq (.seqr [
  ⟨some 40, .op (.bin .lss (.t 39) (.c (.int .i64 16))), none, 0, [], [], false⟩])
  (.seq (.cond (.t 40)
  (.skip)
  (.exit 2))
  (.seq (.block 3 (.seq (.drwr [
  ⟨some 41, .op (.mov (.t 39)), none, 0, [], [], false⟩,
  ⟨some 42, .op (.nilchk (.t 38)), none, 1, [], [], false⟩,
  ⟨some 43, .op (.iaddr (some 16) 1 (.t 42) (.t 39)), none, 2, [], [], false⟩,
  ⟨some 44, .op (.load 1 false (.t 43)), none, 3, [], [], false⟩,
  ⟨some 10, .op (.mov (.t 41)), none, 4, [], [], false⟩,
  ⟨some 11, .op (.mov (.t 44)), none, 5, [], [], false⟩])
  (.drwr [
  ⟨some 45, .op (.mov (.t 6)), none, 0, [], [], false⟩,
  ⟨some 46, .op (.mov (.t 10)), none, 1, [], [], false⟩,
  ⟨some 47, .op (.mov (.t 11)), none, 2, [], [], false⟩,
  ⟨some 48, .call n_aes_back [(.t 47)], none, 3, [], [], false⟩,
  ⟨some 49, .op (.nilchk (.t 45)), none, 4, [], [], false⟩,
  ⟨some 50, .op (.iaddr (some 16) 1 (.t 49) (.t 46)), none, 5, [3], [], false⟩,
  ⟨none, .op (.store 1 (.t 50) (.t 48)), none, 6, [3], [], false⟩])))
  (.seqr [
  ⟨some 51, .op (.bin .add (.t 39) (.c (.int .i64 1))), none, 0, [], [], false⟩,
  ⟨some 39, .op (.mov (.t 51)), none, 1, [], [], false⟩])))
def l_aes_Decrypt_1 : DCode := .seq (.seq (.seqr [
  ⟨some 22, .op (.mov (.t 9)), none, 0, [], [], false⟩,
  ⟨some 23, .op (.bin .gtr (.t 22) (.c (.int .i64 0))), none, 1, [], [], false⟩])
  (.cond (.t 23)
  (.skip)
  (.exit 0)))
  (.seq (.block 1 (.seq (.seqr [
  ⟨some 26, .op (.mov (.t 6)), none, 0, [], [], false⟩,
  ⟨some 27, .op (.mov (.t 9)), none, 1, [], [], false⟩,
  ⟨some 28, .op (.iaddr (some 11) 16 (.t 7) (.t 27)), none, 2, [], [], false⟩,
  ⟨some 29, .op (.load 16 true (.t 28)), none, 3, [], [], false⟩,
  ⟨some 30, .call n_aes_block_xor [(.t 26), (.t 29)], none, 4, [], [], false⟩])
  (.seq (.seq (.seqr [
  ⟨some 31, .op (.mov (.t 9)), none, 0, [], [], false⟩,
  ⟨some 32, .op (.bin .lss (.t 31) (.c (.int .i64 10))), none, 1, [], [], false⟩])
  (.cond (.t 32)
  (.seqr [
   ⟨some 33, .op (.mov (.t 6)), none, 0, [], [], false⟩,
   ⟨some 34, .op (.build (bytesV (List.replicate 4 0)) [(0, 1, (.c (.int .u8 14))), (1, 1, (.c (.int .u8 11))), (2, 1, (.c (.int .u8 13))), (3, 1, (.c (.int .u8 9)))]), none, 1, [], [], false⟩,
   ⟨some 35, .call n_aes_block_mix [(.t 33), (.t 34)], none, 2, [], [], false⟩])
  (.skip)))
  (.seq (.seqr [
  ⟨some 36, .op (.mov (.t 6)), none, 0, [], [], false⟩,
  ⟨some 37, .call n_aes_block_turn [(.t 36), (.c (.int .i64 3))], none, 1, [], [], false⟩])
  (.seq (.seqr [
  ⟨some 38, .op (.mov (.t 6)), none, 0, [], [], false⟩,
  ⟨some 39, .op (.mov (.c (.int .i64 0))), none, 1, [], [], false⟩])
  (.block 2 (.loop [6, 7, 8, 9, 38, 39] l_aes_Decrypt_0)))))))
  (.seqr [
  ⟨some 24, .op (.mov (.t 9)), none, 0, [], [], false⟩,
  ⟨some 25, .op (.bin .sub (.t 24) (.c (.int .i64 1))), none, 1, [], [], false⟩,
  ⟨some 9, .op (.mov (.t 25)), none, 2, [], [], false⟩]))
def d_aes_Decrypt : DFun := ⟨60, [true, true], [.tmp 4, .tmp 5],
 .seq (.seqr [
  ⟨some 4, .op (.mov (.c .nils)), none, 0, [], [], false⟩,
  ⟨some 5, .op (.mov (.c (.int .i64 0))), none, 1, [], [], false⟩])
  (.seq (.seqr [
  ⟨some 13, .op (.mov (.t 0)), none, 0, [], [], false⟩,
  ⟨some 14, .op (.mov (.t 1)), none, 1, [], [], false⟩,
  ⟨some 15, .call n_aes_start [(.t 13), (.t 14)], none, 2, [], [], false⟩,
  ⟨some 12, .op (.mov (.t 15)), none, 3, [], [], false⟩,
  ⟨some 16, .op (.ext 0 (.t 12)), none, 4, [], [], false⟩,
  ⟨some 17, .op (.ext 1 (.t 12)), none, 5, [], [], false⟩,
  ⟨some 18, .op (.ext 2 (.t 12)), none, 6, [], [], false⟩,
  ⟨some 7, .op (.alloc (.row (List.replicate 11 (.agg (bytesV (List.replicate 16 0)))) 16)), none, 7, [], [], false⟩,
  ⟨some 6, .op (.mov (.t 16)), none, 8, [], [], false⟩,
  ⟨none, .op (.store 176 (.t 7) (.t 17)), none, 9, [], [], false⟩,
  ⟨some 8, .op (.mov (.t 18)), none, 10, [], [], false⟩])
  (.seq (.seq (.seqr [
  ⟨some 19, .op (.mov (.t 8)), none, 0, [], [], false⟩,
  ⟨some 20, .op (.bin .neq (.t 19) (.c (.int .i64 0))), none, 1, [], [], false⟩])
  (.cond (.t 20)
  (.seq (.seqr [
   ⟨some 21, .op (.mov (.t 8)), none, 0, [], [], false⟩,
   ⟨some 4, .op (.mov (.c .nils)), none, 1, [], [], false⟩,
   ⟨some 5, .op (.mov (.t 21)), none, 2, [], [], false⟩])
   (.ret))
  (.skip)))
  (.seq (.seq (.seqr [
  ⟨some 9, .op (.mov (.c (.int .i64 10))), none, 0, [], [], false⟩])
  (.block 0 (.loop [6, 7, 8, 9] l_aes_Decrypt_1)))
  (.seq (.seqr [
  ⟨some 52, .op (.mov (.t 6)), none, 0, [], [], false⟩,
  ⟨some 53, .op (.iaddr (some 11) 16 (.t 7) (.c (.int .i64 0))), none, 1, [], [], false⟩,
  ⟨some 54, .op (.load 16 true (.t 53)), none, 2, [], [], false⟩,
  ⟨some 55, .call n_aes_block_xor [(.t 52), (.t 54)], none, 3, [], [], false⟩])
  (.seq (.seqr [
  ⟨some 56, .op (.mov (.t 6)), none, 0, [], [], false⟩,
  ⟨some 57, .op (.nilchk (.t 56)), none, 1, [], [], false⟩,
  ⟨some 58, .op (.slcA 16 1 (.t 57) none none), none, 2, [], [], false⟩,
  ⟨some 59, .op (.mov (.t 8)), none, 3, [], [], false⟩,
  ⟨some 4, .op (.mov (.t 58)), none, 4, [], [], false⟩,
  ⟨some 5, .op (.mov (.t 59)), none, 5, [], [], false⟩])
  (.ret))))))⟩
/-! internal/strconv.FormatInt -/
def d_strconv_FormatInt : DFun := ⟨54, [true, true], [.tmp 4],
 .seq (.seqr [
  ⟨some 4, .op (.mov (.c (.str []))), none, 0, [], [], false⟩])
  (.seq (.seq (.seqr [
  ⟨some 10, .op (.mov (.t 1)), none, 0, [], [], false⟩,
  ⟨some 11, .op (.bin .eql (.t 10) (.c (.int .i64 10))), none, 1, [], [], false⟩])
  (.cond (.t 11)
  (.seq (.seq (.seqr [
   ⟨some 12, .op (.mov (.t 0)), none, 0, [], [], false⟩,
   ⟨some 13, .op (.bin .leq (.c (.int .i64 0)) (.t 12)), none, 1, [], [], false⟩,
   ⟨some 14, .op (.mov (.t 13)), none, 2, [], [], false⟩,
   ⟨some 15, .op (.mov (.t 0)), some (14, true), 3, [], [], false⟩,
   ⟨some 16, .op (.bin .lss (.t 15) (.c (.int .i64 100))), some (14, true), 4, [], [], false⟩,
   ⟨some 17, .op (.pick (.t 14) (.t 16) (.c (.bool false))), none, 5, [], [], false⟩])
   (.cond (.t 17)
   (.seq (.seqr [
    ⟨some 18, .op (.mov (.t 0)), none, 0, [], [], false⟩,
    ⟨some 19, .call n_strconv_small [(.t 18)], none, 1, [], [], false⟩,
    ⟨some 4, .op (.mov (.t 19)), none, 2, [], [], false⟩])
    (.ret))
   (.skip)))
   (.seq (.seqr [
   ⟨some 5, .op (.alloc (.row (bytesV (List.replicate 24 0)) 1)), none, 0, [], [], false⟩])
   (.seq (.seqr [
   ⟨some 20, .op (.mov (.t 0)), none, 0, [], [], false⟩,
   ⟨some 21, .op (.conv .u64 (.t 20)), none, 1, [], [], false⟩,
   ⟨some 6, .op (.mov (.t 21)), none, 2, [], [], false⟩])
   (.seq (.seq (.seqr [
   ⟨some 22, .op (.mov (.t 0)), none, 0, [], [], false⟩,
   ⟨some 23, .op (.bin .lss (.t 22) (.c (.int .i64 0))), none, 1, [], [], false⟩])
   (.cond (.t 23)
   (.seqr [
    ⟨some 24, .op (.mov (.t 6)), none, 0, [], [], false⟩,
    ⟨some 25, .op (.un .neg (.t 24)), none, 1, [], [], false⟩,
    ⟨some 6, .op (.mov (.t 25)), none, 2, [], [], false⟩])
   (.skip)))
   (.seq (.seqr [
   ⟨some 26, .op (.mov (.t 6)), none, 0, [], [], false⟩,
   ⟨some 27, .call n_strconv_numDigits [(.t 26)], none, 1, [], [], false⟩,
   ⟨some 7, .op (.mov (.t 27)), none, 2, [], [], false⟩])
   (.seq (.seqr [
   ⟨some 28, .op (.mov (.t 7)), none, 0, [], [], false⟩,
   ⟨some 29, .op (.bin .add (.c (.int .i64 1)) (.t 28)), none, 1, [], [], false⟩,
   ⟨some 30, .op (.slcA 24 1 (.t 5) (some (.c (.int .i64 1))) (some (.t 29))), none, 2, [], [], false⟩,
   ⟨some 31, .op (.mov (.t 6)), none, 3, [], [], false⟩,
   ⟨some 32, .call n_strconv_formatBase10 [(.t 30), (.t 31)], none, 4, [], [], false⟩])
   (.seq (.seq (.seqr [
   ⟨some 33, .op (.mov (.t 0)), none, 0, [], [], false⟩,
   ⟨some 34, .op (.bin .lss (.t 33) (.c (.int .i64 0))), none, 1, [], [], false⟩])
   (.cond (.t 34)
   (.seq (.seqr [
    ⟨some 35, .op (.iaddr (some 24) 1 (.t 5) (.c (.int .i64 0))), none, 0, [], [], false⟩,
    ⟨none, .op (.store 1 (.t 35) (.c (.int .u8 45))), none, 1, [], [], false⟩])
    (.seq (.seqr [
    ⟨some 36, .op (.mov (.t 7)), none, 0, [], [], false⟩,
    ⟨some 37, .op (.bin .add (.c (.int .i64 1)) (.t 36)), none, 1, [], [], false⟩,
    ⟨some 38, .op (.slcA 24 1 (.t 5) none (some (.t 37))), none, 2, [], [], false⟩,
    ⟨some 39, .op (.b2s (.t 38)), none, 3, [], [], false⟩,
    ⟨some 4, .op (.mov (.t 39)), none, 4, [], [], false⟩])
    (.ret)))
   (.skip)))
   (.seq (.seqr [
   ⟨some 40, .op (.mov (.t 7)), none, 0, [], [], false⟩,
   ⟨some 41, .op (.bin .add (.c (.int .i64 1)) (.t 40)), none, 1, [], [], false⟩,
   ⟨some 42, .op (.slcA 24 1 (.t 5) (some (.c (.int .i64 1))) (some (.t 41))), none, 2, [], [], false⟩,
   ⟨some 43, .op (.b2s (.t 42)), none, 3, [], [], false⟩,
   ⟨some 4, .op (.mov (.t 43)), none, 4, [], [], false⟩])
   (.ret)))))))))
  (.skip)))
  (.seq (.seqr [
  ⟨some 45, .op (.mov (.t 0)), none, 0, [], [], false⟩,
  ⟨some 46, .op (.conv .u64 (.t 45)), none, 1, [], [], false⟩,
  ⟨some 47, .op (.mov (.t 1)), none, 2, [], [], false⟩,
  ⟨some 48, .op (.mov (.t 0)), none, 3, [], [], false⟩,
  ⟨some 49, .op (.bin .lss (.t 48) (.c (.int .i64 0))), none, 4, [], [], false⟩,
  ⟨some 50, .call n_strconv_formatBits [(.c .nils), (.t 46), (.t 47), (.t 49), (.c (.bool false))], none, 5, [], [], false⟩,
  ⟨some 44, .op (.mov (.t 50)), none, 6, [], [], false⟩,
  ⟨some 51, .op (.ext 0 (.t 44)), none, 7, [], [], false⟩,
  ⟨some 52, .op (.ext 1 (.t 44)), none, 8, [], [], false⟩,
  ⟨some 8, .op (.mov (.t 51)), none, 9, [], [], false⟩,
  ⟨some 9, .op (.mov (.t 52)), none, 10, [], [], false⟩])
  (.seq (.seqr [
  ⟨some 53, .op (.mov (.t 9)), none, 0, [], [], false⟩,
  ⟨some 4, .op (.mov (.t 53)), none, 1, [], [], false⟩])
  (.ret))))⟩
/-! seneschal/who.refused -/
def d_who_refused : DFun := ⟨56, [true, true, true, true], [.tmp 8],
 .seq (.seqr [
  ⟨some 4, .op (.box 0 (.t 0)), none, 0, [], [], false⟩,
  ⟨some 5, .op (.box 0 (.t 1)), none, 1, [], [], false⟩,
  ⟨some 6, .op (.box 0 (.t 2)), none, 2, [], [], false⟩,
  ⟨some 8, .op (.mov (.c (.int .i64 0))), none, 3, [], [], false⟩])
  (.seq (.seqr [
  ⟨some 10, .op (.faddr 2 (.t 5)), none, 0, [], [], false⟩,
  ⟨some 11, .op (.load 1 false (.t 10)), none, 1, [], [], false⟩,
  ⟨some 12, .op (.faddr 2 (.t 6)), none, 2, [], [], false⟩,
  ⟨some 13, .op (.load 1 false (.t 12)), none, 3, [], [], false⟩,
  ⟨some 14, .op (.bin .and (.t 11) (.t 13)), none, 4, [], [], false⟩,
  ⟨some 15, .op (.bin .and (.t 14) (.c (.int .i64 12))), none, 5, [], [], false⟩,
  ⟨some 9, .op (.mov (.t 15)), none, 6, [], [], false⟩])
  (.seq (.block 0 (.seq (.block 5 (.block 4 (.block 3 (.seq (.block 2 (.seq (.block 1 (.seq (.seq (.seq (.seqr [
  ⟨some 17, .op (.faddr 2 (.t 5)), none, 0, [], [], false⟩,
  ⟨some 18, .op (.load 1 false (.t 17)), none, 1, [], [], false⟩,
  ⟨some 19, .op (.bin .and (.t 18) (.c (.int .i64 1))), none, 2, [], [], false⟩,
  ⟨some 20, .op (.bin .eql (.t 19) (.c (.int .i64 0))), none, 3, [], [], false⟩,
  ⟨some 16, .op (.mov (.t 20)), none, 4, [], [], false⟩])
  (.cond (.t 16)
  (.exit 1)
  (.skip)))
  (.seq (.seq (.seqr [
  ⟨some 22, .op (.faddr 2 (.t 6)), none, 0, [], [], false⟩,
  ⟨some 23, .op (.load 1 false (.t 22)), none, 1, [], [], false⟩,
  ⟨some 24, .op (.bin .and (.t 23) (.c (.int .i64 2))), none, 2, [], [], false⟩,
  ⟨some 25, .op (.bin .eql (.t 24) (.c (.int .i64 0))), none, 3, [], [], false⟩,
  ⟨some 21, .op (.mov (.t 25)), none, 4, [], [], false⟩])
  (.cond (.t 21)
  (.exit 2)
  (.skip)))
  (.seq (.seq (.seqr [
  ⟨some 27, .op (.faddr 6 (.t 4)), none, 0, [], [], false⟩,
  ⟨some 28, .op (.load 1 false (.t 27)), none, 1, [], [], false⟩,
  ⟨some 29, .op (.mov (.t 9)), none, 2, [], [], false⟩,
  ⟨some 30, .op (.bin .andNot (.t 28) (.t 29)), none, 3, [], [], false⟩,
  ⟨some 31, .op (.bin .neq (.t 30) (.c (.int .i64 0))), none, 4, [], [], false⟩,
  ⟨some 26, .op (.mov (.t 31)), none, 5, [], [], false⟩])
  (.cond (.t 26)
  (.exit 3)
  (.skip)))
  (.seq (.seq (.seqr [
  ⟨some 33, .op (.faddr 3 (.t 4)), none, 0, [], [], false⟩,
  ⟨some 34, .op (.load 1 false (.t 33)), none, 1, [], [], false⟩,
  ⟨some 35, .op (.mov (.t 3)), none, 2, [], [], false⟩,
  ⟨some 36, .op (.bin .sub (.t 34) (.t 35)), none, 3, [], [], false⟩,
  ⟨some 37, .op (.faddr 3 (.t 5)), none, 4, [], [], false⟩,
  ⟨some 38, .op (.load 1 false (.t 37)), none, 5, [], [], false⟩,
  ⟨some 39, .op (.faddr 3 (.t 6)), none, 6, [], [], false⟩,
  ⟨some 40, .op (.load 1 false (.t 39)), none, 7, [], [], false⟩,
  ⟨some 41, .op (.mnx true (.t 38) (.t 40)), none, 8, [], [], false⟩,
  ⟨some 42, .op (.bin .gtr (.t 36) (.t 41)), none, 9, [], [], false⟩,
  ⟨some 32, .op (.mov (.t 42)), none, 10, [], [], false⟩])
  (.cond (.t 32)
  (.exit 4)
  (.skip)))
  (.seq (.seqr [
  ⟨some 44, .op (.faddr 4 (.t 4)), none, 0, [], [], false⟩,
  ⟨some 45, .op (.load 1 false (.t 44)), none, 1, [], [], false⟩,
  ⟨some 46, .op (.bin .neq (.t 45) (.c (.int .i64 0))), none, 2, [], [], false⟩,
  ⟨some 47, .op (.mov (.t 46)), none, 3, [], [], false⟩,
  ⟨some 48, .op (.faddr 4 (.t 4)), some (47, true), 4, [], [], false⟩,
  ⟨some 49, .op (.load 1 false (.t 48)), some (47, true), 5, [], [], false⟩,
  ⟨some 50, .op (.faddr 3 (.t 4)), some (47, true), 6, [], [], false⟩,
  ⟨some 51, .op (.load 1 false (.t 50)), some (47, true), 7, [], [], false⟩,
  ⟨some 52, .op (.mov (.t 3)), some (47, true), 8, [], [], false⟩,
  ⟨some 53, .op (.mnx false (.t 51) (.t 52)), some (47, true), 9, [], [], false⟩,
  ⟨some 54, .op (.bin .leq (.t 49) (.t 53)), some (47, true), 10, [], [], false⟩,
  ⟨some 55, .op (.pick (.t 47) (.t 54) (.c (.bool false))), none, 11, [], [], false⟩,
  ⟨some 43, .op (.mov (.t 55)), none, 12, [], [], false⟩])
  (.cond (.t 43)
  (.exit 5)
  (.skip)))))))
  (.exit 0)))
  (.seq (.seq (.seqr [
  ⟨some 8, .op (.mov (.c (.int .i64 6))), none, 0, [], [], false⟩])
  (.ret))
  (.exit 0))))
  (.seq (.seq (.seqr [
  ⟨some 8, .op (.mov (.c (.int .i64 7))), none, 0, [], [], false⟩])
  (.ret))
  (.exit 0))))))
  (.seq (.seq (.seqr [
  ⟨some 8, .op (.mov (.c (.int .i64 12))), none, 0, [], [], false⟩])
  (.ret))
  (.exit 0))))
  (.seq (.seqr [
  ⟨some 8, .op (.mov (.c (.int .i64 0))), none, 0, [], [], false⟩])
  (.ret))))⟩
/-! seneschal/aes.start -/
def d_aes_start : DFun := ⟨28, [true, true], [.tmp 4, .cell 5 176 true, .tmp 6],
 .seq (.seqr [
  ⟨some 4, .op (.mov (.c .nilp)), none, 0, [], [], false⟩,
  ⟨some 5, .op (.alloc (.row (List.replicate 11 (.agg (bytesV (List.replicate 16 0)))) 16)), none, 1, [], [], false⟩,
  ⟨some 6, .op (.mov (.c (.int .i64 0))), none, 2, [], [], false⟩])
  (.seq (.seqr [
  ⟨some 11, .op (.mov (.t 0)), none, 0, [], [], false⟩,
  ⟨some 12, .call n_aes_Keys [(.t 11)], none, 1, [], [], false⟩,
  ⟨some 10, .op (.mov (.t 12)), none, 2, [], [], false⟩,
  ⟨some 13, .op (.ext 0 (.t 10)), none, 3, [], [], false⟩,
  ⟨some 14, .op (.ext 1 (.t 10)), none, 4, [], [], false⟩,
  ⟨some 7, .op (.alloc (.row (List.replicate 11 (.agg (bytesV (List.replicate 16 0)))) 16)), none, 5, [], [], false⟩,
  ⟨none, .op (.store 176 (.t 7) (.t 13)), none, 6, [], [], false⟩,
  ⟨some 8, .op (.mov (.t 14)), none, 7, [], [], false⟩])
  (.seq (.seq (.seqr [
  ⟨some 15, .op (.mov (.t 8)), none, 0, [], [], false⟩,
  ⟨some 16, .op (.bin .neq (.t 15) (.c (.int .i64 0))), none, 1, [], [], false⟩,
  ⟨some 17, .op (.mov (.t 16)), none, 2, [], [], false⟩,
  ⟨some 18, .op (.mov (.t 1)), some (17, false), 3, [], [], false⟩,
  ⟨some 19, .op (.lenL (.t 18)), some (17, false), 4, [], [], false⟩,
  ⟨some 20, .op (.bin .neq (.t 19) (.c (.int .i64 16))), some (17, false), 5, [], [], false⟩,
  ⟨some 21, .op (.pick (.t 17) (.c (.bool true)) (.t 20)), none, 6, [], [], false⟩])
  (.cond (.t 21)
  (.seq (.drwr [
   ⟨some 22, .op (.load 176 true (.t 7)), none, 0, [], [], false⟩,
   ⟨some 4, .op (.mov (.c .nilp)), none, 1, [], [], false⟩,
   ⟨none, .op (.store 176 (.t 5) (.t 22)), none, 2, [], [], false⟩,
   ⟨some 6, .op (.mov (.c (.int .i64 2))), none, 3, [], [], false⟩])
   (.ret))
  (.skip)))
  (.seq (.seqr [
  ⟨some 23, .op (.mov (.t 1)), none, 0, [], [], false⟩,
  ⟨some 24, .op (.s2ap 16 (.t 23)), none, 1, [], [], false⟩,
  ⟨some 25, .op (.load 16 true (.t 24)), none, 2, [], [], false⟩,
  ⟨some 9, .op (.alloc (.row (bytesV (List.replicate 16 0)) 1)), none, 3, [], [], false⟩,
  ⟨none, .op (.store 16 (.t 9) (.t 25)), none, 4, [], [], false⟩])
  (.seq (.drwr [
  ⟨some 26, .op (.load 176 true (.t 7)), none, 0, [], [], false⟩,
  ⟨some 27, .op (.mov (.t 8)), none, 1, [], [], false⟩,
  ⟨some 4, .op (.mov (.t 9)), none, 2, [], [], false⟩,
  ⟨none, .op (.store 176 (.t 5) (.t 26)), none, 3, [], [], false⟩,
  ⟨some 6, .op (.mov (.t 27)), none, 4, [], [], false⟩])
  (.ret)))))⟩
/-! (*seneschal/aes.block).xor -/
def l_aes_block_xor_0 : DCode := .seq (.seqr [
  ⟨some 6, .op (.bin .lss (.t 5) (.c (.int .i64 16))), none, 0, [], [], false⟩])
  (.seq (.cond (.t 6)
  (.skip)
  (.exit 0))
  (.seq (.block 1 (.seq (.seqr [
  ⟨some 7, .op (.mov (.t 5)), none, 0, [], [], false⟩,
  ⟨some 4, .op (.mov (.t 7)), none, 1, [], [], false⟩])
  (.drwr [
  ⟨some 8, .op (.mov (.t 0)), none, 0, [], [], false⟩,
  ⟨some 9, .op (.mov (.t 4)), none, 1, [], [], false⟩,
  ⟨some 10, .op (.nilchk (.t 8)), none, 2, [], [], false⟩,
  ⟨some 11, .op (.iaddr (some 16) 1 (.t 10) (.t 9)), none, 3, [], [], false⟩,
  ⟨some 12, .op (.load 1 false (.t 11)), none, 4, [], [], false⟩,
  ⟨some 13, .op (.mov (.t 4)), none, 5, [], [], false⟩,
  ⟨some 14, .op (.iaddr (some 16) 1 (.t 3) (.t 13)), none, 6, [], [], false⟩,
  ⟨some 15, .op (.load 1 false (.t 14)), none, 7, [], [], false⟩,
  ⟨some 16, .op (.bin .xor (.t 12) (.t 15)), none, 8, [], [], false⟩,
  ⟨some 17, .op (.nilchk (.t 8)), none, 9, [], [], false⟩,
  ⟨some 18, .op (.iaddr (some 16) 1 (.t 17) (.t 9)), none, 10, [], [], false⟩,
  ⟨none, .op (.store 1 (.t 18) (.t 16)), none, 11, [], [], false⟩])))
  (.seqr [
  ⟨some 19, .op (.bin .add (.t 5) (.c (.int .i64 1))), none, 0, [], [], false⟩,
  ⟨some 5, .op (.mov (.t 19)), none, 1, [], [], false⟩])))
def d_aes_block_xor : DFun := ⟨20, [false, true], [],
 .seq (.seqr [
  ⟨some 3, .op (.box 1 (.t 1)), none, 0, [], [], false⟩])
  (.seq (.seqr [
  ⟨some 5, .op (.mov (.c (.int .i64 0))), none, 0, [], [], false⟩])
  (.block 0 (.loop [0, 3, 5] l_aes_block_xor_0)))⟩
/-! seneschal/aes.box -/
def d_aes_box : DFun := ⟨2, [], [.cell 0 256 true],
 .seq (.seqr [
  ⟨some 0, .op (.alloc (.row (bytesV (List.replicate 256 0)) 1)), none, 0, [], [], false⟩])
  (.seq (.seqr [
  ⟨some 1, .op (.build (bytesV (List.replicate 256 0)) [(0, 1, (.c (.int .u8 99))), (1, 1, (.c (.int .u8 124))), (2, 1, (.c (.int .u8 119))), (3, 1, (.c (.int .u8 123))), (4, 1, (.c (.int .u8 242))), (5, 1, (.c (.int .u8 107))), (6, 1, (.c (.int .u8 111))), (7, 1, (.c (.int .u8 197))), (8, 1, (.c (.int .u8 48))), (9, 1, (.c (.int .u8 1))), (10, 1, (.c (.int .u8 103))), (11, 1, (.c (.int .u8 43))), (12, 1, (.c (.int .u8 254))), (13, 1, (.c (.int .u8 215))), (14, 1, (.c (.int .u8 171))), (15, 1, (.c (.int .u8 118))), (16, 1, (.c (.int .u8 202))), (17, 1, (.c (.int .u8 130))), (18, 1, (.c (.int .u8 201))), (19, 1, (.c (.int .u8 125))), (20, 1, (.c (.int .u8 250))), (21, 1, (.c (.int .u8 89))), (22, 1, (.c (.int .u8 71))), (23, 1, (.c (.int .u8 240))), (24, 1, (.c (.int .u8 173))), (25, 1, (.c (.int .u8 212))), (26, 1, (.c (.int .u8 162))), (27, 1, (.c (.int .u8 175))), (28, 1, (.c (.int .u8 156))), (29, 1, (.c (.int .u8 164))), (30, 1, (.c (.int .u8 114))), (31, 1, (.c (.int .u8 192))), (32, 1, (.c (.int .u8 183))), (33, 1, (.c (.int .u8 253))), (34, 1, (.c (.int .u8 147))), (35, 1, (.c (.int .u8 38))), (36, 1, (.c (.int .u8 54))), (37, 1, (.c (.int .u8 63))), (38, 1, (.c (.int .u8 247))), (39, 1, (.c (.int .u8 204))), (40, 1, (.c (.int .u8 52))), (41, 1, (.c (.int .u8 165))), (42, 1, (.c (.int .u8 229))), (43, 1, (.c (.int .u8 241))), (44, 1, (.c (.int .u8 113))), (45, 1, (.c (.int .u8 216))), (46, 1, (.c (.int .u8 49))), (47, 1, (.c (.int .u8 21))), (48, 1, (.c (.int .u8 4))), (49, 1, (.c (.int .u8 199))), (50, 1, (.c (.int .u8 35))), (51, 1, (.c (.int .u8 195))), (52, 1, (.c (.int .u8 24))), (53, 1, (.c (.int .u8 150))), (54, 1, (.c (.int .u8 5))), (55, 1, (.c (.int .u8 154))), (56, 1, (.c (.int .u8 7))), (57, 1, (.c (.int .u8 18))), (58, 1, (.c (.int .u8 128))), (59, 1, (.c (.int .u8 226))), (60, 1, (.c (.int .u8 235))), (61, 1, (.c (.int .u8 39))), (62, 1, (.c (.int .u8 178))), (63, 1, (.c (.int .u8 117))), (64, 1, (.c (.int .u8 9))), (65, 1, (.c (.int .u8 131))), (66, 1, (.c (.int .u8 44))), (67, 1, (.c (.int .u8 26))), (68, 1, (.c (.int .u8 27))), (69, 1, (.c (.int .u8 110))), (70, 1, (.c (.int .u8 90))), (71, 1, (.c (.int .u8 160))), (72, 1, (.c (.int .u8 82))), (73, 1, (.c (.int .u8 59))), (74, 1, (.c (.int .u8 214))), (75, 1, (.c (.int .u8 179))), (76, 1, (.c (.int .u8 41))), (77, 1, (.c (.int .u8 227))), (78, 1, (.c (.int .u8 47))), (79, 1, (.c (.int .u8 132))), (80, 1, (.c (.int .u8 83))), (81, 1, (.c (.int .u8 209))), (82, 1, (.c (.int .u8 0))), (83, 1, (.c (.int .u8 237))), (84, 1, (.c (.int .u8 32))), (85, 1, (.c (.int .u8 252))), (86, 1, (.c (.int .u8 177))), (87, 1, (.c (.int .u8 91))), (88, 1, (.c (.int .u8 106))), (89, 1, (.c (.int .u8 203))), (90, 1, (.c (.int .u8 190))), (91, 1, (.c (.int .u8 57))), (92, 1, (.c (.int .u8 74))), (93, 1, (.c (.int .u8 76))), (94, 1, (.c (.int .u8 88))), (95, 1, (.c (.int .u8 207))), (96, 1, (.c (.int .u8 208))), (97, 1, (.c (.int .u8 239))), (98, 1, (.c (.int .u8 170))), (99, 1, (.c (.int .u8 251))), (100, 1, (.c (.int .u8 67))), (101, 1, (.c (.int .u8 77))), (102, 1, (.c (.int .u8 51))), (103, 1, (.c (.int .u8 133))), (104, 1, (.c (.int .u8 69))), (105, 1, (.c (.int .u8 249))), (106, 1, (.c (.int .u8 2))), (107, 1, (.c (.int .u8 127))), (108, 1, (.c (.int .u8 80))), (109, 1, (.c (.int .u8 60))), (110, 1, (.c (.int .u8 159))), (111, 1, (.c (.int .u8 168))), (112, 1, (.c (.int .u8 81))), (113, 1, (.c (.int .u8 163))), (114, 1, (.c (.int .u8 64))), (115, 1, (.c (.int .u8 143))), (116, 1, (.c (.int .u8 146))), (117, 1, (.c (.int .u8 157))), (118, 1, (.c (.int .u8 56))), (119, 1, (.c (.int .u8 245))), (120, 1, (.c (.int .u8 188))), (121, 1, (.c (.int .u8 182))), (122, 1, (.c (.int .u8 218))), (123, 1, (.c (.int .u8 33))), (124, 1, (.c (.int .u8 16))), (125, 1, (.c (.int .u8 255))), (126, 1, (.c (.int .u8 243))), (127, 1, (.c (.int .u8 210))), (128, 1, (.c (.int .u8 205))), (129, 1, (.c (.int .u8 12))), (130, 1, (.c (.int .u8 19))), (131, 1, (.c (.int .u8 236))), (132, 1, (.c (.int .u8 95))), (133, 1, (.c (.int .u8 151))), (134, 1, (.c (.int .u8 68))), (135, 1, (.c (.int .u8 23))), (136, 1, (.c (.int .u8 196))), (137, 1, (.c (.int .u8 167))), (138, 1, (.c (.int .u8 126))), (139, 1, (.c (.int .u8 61))), (140, 1, (.c (.int .u8 100))), (141, 1, (.c (.int .u8 93))), (142, 1, (.c (.int .u8 25))), (143, 1, (.c (.int .u8 115))), (144, 1, (.c (.int .u8 96))), (145, 1, (.c (.int .u8 129))), (146, 1, (.c (.int .u8 79))), (147, 1, (.c (.int .u8 220))), (148, 1, (.c (.int .u8 34))), (149, 1, (.c (.int .u8 42))), (150, 1, (.c (.int .u8 144))), (151, 1, (.c (.int .u8 136))), (152, 1, (.c (.int .u8 70))), (153, 1, (.c (.int .u8 238))), (154, 1, (.c (.int .u8 184))), (155, 1, (.c (.int .u8 20))), (156, 1, (.c (.int .u8 222))), (157, 1, (.c (.int .u8 94))), (158, 1, (.c (.int .u8 11))), (159, 1, (.c (.int .u8 219))), (160, 1, (.c (.int .u8 224))), (161, 1, (.c (.int .u8 50))), (162, 1, (.c (.int .u8 58))), (163, 1, (.c (.int .u8 10))), (164, 1, (.c (.int .u8 73))), (165, 1, (.c (.int .u8 6))), (166, 1, (.c (.int .u8 36))), (167, 1, (.c (.int .u8 92))), (168, 1, (.c (.int .u8 194))), (169, 1, (.c (.int .u8 211))), (170, 1, (.c (.int .u8 172))), (171, 1, (.c (.int .u8 98))), (172, 1, (.c (.int .u8 145))), (173, 1, (.c (.int .u8 149))), (174, 1, (.c (.int .u8 228))), (175, 1, (.c (.int .u8 121))), (176, 1, (.c (.int .u8 231))), (177, 1, (.c (.int .u8 200))), (178, 1, (.c (.int .u8 55))), (179, 1, (.c (.int .u8 109))), (180, 1, (.c (.int .u8 141))), (181, 1, (.c (.int .u8 213))), (182, 1, (.c (.int .u8 78))), (183, 1, (.c (.int .u8 169))), (184, 1, (.c (.int .u8 108))), (185, 1, (.c (.int .u8 86))), (186, 1, (.c (.int .u8 244))), (187, 1, (.c (.int .u8 234))), (188, 1, (.c (.int .u8 101))), (189, 1, (.c (.int .u8 122))), (190, 1, (.c (.int .u8 174))), (191, 1, (.c (.int .u8 8))), (192, 1, (.c (.int .u8 186))), (193, 1, (.c (.int .u8 120))), (194, 1, (.c (.int .u8 37))), (195, 1, (.c (.int .u8 46))), (196, 1, (.c (.int .u8 28))), (197, 1, (.c (.int .u8 166))), (198, 1, (.c (.int .u8 180))), (199, 1, (.c (.int .u8 198))), (200, 1, (.c (.int .u8 232))), (201, 1, (.c (.int .u8 221))), (202, 1, (.c (.int .u8 116))), (203, 1, (.c (.int .u8 31))), (204, 1, (.c (.int .u8 75))), (205, 1, (.c (.int .u8 189))), (206, 1, (.c (.int .u8 139))), (207, 1, (.c (.int .u8 138))), (208, 1, (.c (.int .u8 112))), (209, 1, (.c (.int .u8 62))), (210, 1, (.c (.int .u8 181))), (211, 1, (.c (.int .u8 102))), (212, 1, (.c (.int .u8 72))), (213, 1, (.c (.int .u8 3))), (214, 1, (.c (.int .u8 246))), (215, 1, (.c (.int .u8 14))), (216, 1, (.c (.int .u8 97))), (217, 1, (.c (.int .u8 53))), (218, 1, (.c (.int .u8 87))), (219, 1, (.c (.int .u8 185))), (220, 1, (.c (.int .u8 134))), (221, 1, (.c (.int .u8 193))), (222, 1, (.c (.int .u8 29))), (223, 1, (.c (.int .u8 158))), (224, 1, (.c (.int .u8 225))), (225, 1, (.c (.int .u8 248))), (226, 1, (.c (.int .u8 152))), (227, 1, (.c (.int .u8 17))), (228, 1, (.c (.int .u8 105))), (229, 1, (.c (.int .u8 217))), (230, 1, (.c (.int .u8 142))), (231, 1, (.c (.int .u8 148))), (232, 1, (.c (.int .u8 155))), (233, 1, (.c (.int .u8 30))), (234, 1, (.c (.int .u8 135))), (235, 1, (.c (.int .u8 233))), (236, 1, (.c (.int .u8 206))), (237, 1, (.c (.int .u8 85))), (238, 1, (.c (.int .u8 40))), (239, 1, (.c (.int .u8 223))), (240, 1, (.c (.int .u8 140))), (241, 1, (.c (.int .u8 161))), (242, 1, (.c (.int .u8 137))), (243, 1, (.c (.int .u8 13))), (244, 1, (.c (.int .u8 191))), (245, 1, (.c (.int .u8 230))), (246, 1, (.c (.int .u8 66))), (247, 1, (.c (.int .u8 104))), (248, 1, (.c (.int .u8 65))), (249, 1, (.c (.int .u8 153))), (250, 1, (.c (.int .u8 45))), (251, 1, (.c (.int .u8 15))), (252, 1, (.c (.int .u8 176))), (253, 1, (.c (.int .u8 84))), (254, 1, (.c (.int .u8 187))), (255, 1, (.c (.int .u8 22)))]), none, 0, [], [], false⟩,
  ⟨none, .op (.store 256 (.t 0) (.t 1)), none, 1, [], [], false⟩])
  (.ret))⟩
/-! (*seneschal/aes.block).turn -/
def l_aes_block_turn_0 : DCode := .seq (.seqr [
  ⟨some 10, .op (.bin .lss (.t 9) (.c (.int .i64 16))), none, 0, [], [], false⟩])
  (.seq (.cond (.t 10)
  (.skip)
  (.exit 0))
  (.seq (.block 1 (.seq (.seqr [
  ⟨some 11, .op (.mov (.t 9)), none, 0, [], [], false⟩,
  ⟨some 5, .op (.mov (.t 11)), none, 1, [], [], false⟩])
  (.drwr [
  ⟨some 12, .op (.mov (.t 0)), none, 0, [], [], false⟩,
  ⟨some 13, .op (.mov (.t 5)), none, 1, [], [], false⟩,
  ⟨some 14, .op (.mov (.t 5)), none, 2, [], [], false⟩,
  ⟨some 15, .op (.mov (.t 1)), none, 3, [], [], false⟩,
  ⟨some 16, .op (.bin .mul (.c (.int .i64 4)) (.t 15)), none, 4, [], [], false⟩,
  ⟨some 17, .op (.mov (.t 5)), none, 5, [], [], false⟩,
  ⟨some 18, .op (.bin .rem (.t 17) (.c (.int .i64 4))), none, 6, [], [], false⟩,
  ⟨some 19, .op (.bin .mul (.t 16) (.t 18)), none, 7, [], [], false⟩,
  ⟨some 20, .op (.bin .add (.t 14) (.t 19)), none, 8, [], [], false⟩,
  ⟨some 21, .op (.bin .rem (.t 20) (.c (.int .i64 16))), none, 9, [], [], false⟩,
  ⟨some 22, .op (.iaddr (some 16) 1 (.t 4) (.t 21)), none, 10, [], [], false⟩,
  ⟨some 23, .op (.load 1 false (.t 22)), none, 11, [], [], false⟩,
  ⟨some 24, .op (.nilchk (.t 12)), none, 12, [], [], false⟩,
  ⟨some 25, .op (.iaddr (some 16) 1 (.t 24) (.t 13)), none, 13, [], [], false⟩,
  ⟨none, .op (.store 1 (.t 25) (.t 23)), none, 14, [], [], false⟩])))
  (.seqr [
  ⟨some 26, .op (.bin .add (.t 9) (.c (.int .i64 1))), none, 0, [], [], false⟩,
  ⟨some 9, .op (.mov (.t 26)), none, 1, [], [], false⟩])))
def d_aes_block_turn : DFun := ⟨27, [false, true], [],
 .seq (.seqr [
  ⟨some 6, .op (.mov (.t 0)), none, 0, [], [], false⟩,
  ⟨some 7, .op (.nilchk (.t 6)), none, 1, [], [], false⟩,
  ⟨some 8, .op (.load 16 true (.t 7)), none, 2, [], [], false⟩,
  ⟨some 4, .op (.alloc (.row (bytesV (List.replicate 16 0)) 1)), none, 3, [], [], false⟩,
  ⟨none, .op (.store 16 (.t 4) (.t 8)), none, 4, [], [], false⟩])
  (.seq (.seqr [
  ⟨some 9, .op (.mov (.c (.int .i64 0))), none, 0, [], [], false⟩])
  (.block 0 (.loop [0, 1, 4, 9] l_aes_block_turn_0)))⟩
/-! (*seneschal/aes.block).mix -/
def l_aes_block_mix_0 : DCode := .seq (.seqr [
  ⟨some 17, .op (.bin .lss (.t 16) (.c (.int .i64 4))), none, 0, [], [], false⟩])
  (.seq (.cond (.t 17)
  (.skip)
  (.exit 2))
  (.seq (.block 3 (.seq (.seqr [
  ⟨some 18, .op (.mov (.t 16)), none, 0, [], [], false⟩,
  ⟨some 19, .op (.idxA 4 1 false (.t 15) (.t 16)), none, 1, [], [], false⟩,
  ⟨some 7, .op (.mov (.t 18)), none, 2, [], [], false⟩,
  ⟨some 8, .op (.mov (.t 19)), none, 3, [], [], false⟩])
  (.seqr [
  ⟨some 20, .op (.mov (.t 6)), none, 0, [], [], false⟩,
  ⟨some 21, .op (.mov (.t 5)), none, 1, [], [], false⟩,
  ⟨some 22, .op (.bin .andNot (.t 21) (.c (.int .i64 3))), none, 2, [], [], false⟩,
  ⟨some 23, .op (.mov (.t 5)), none, 3, [], [], false⟩,
  ⟨some 24, .op (.mov (.t 7)), none, 4, [], [], false⟩,
  ⟨some 25, .op (.bin .add (.t 23) (.t 24)), none, 5, [], [], false⟩,
  ⟨some 26, .op (.bin .and (.t 25) (.c (.int .i64 3))), none, 6, [], [], false⟩,
  ⟨some 27, .op (.bin .or (.t 22) (.t 26)), none, 7, [], [], false⟩,
  ⟨some 28, .op (.iaddr (some 16) 1 (.t 4) (.t 27)), none, 8, [], [], false⟩,
  ⟨some 29, .op (.load 1 false (.t 28)), none, 9, [], [], false⟩,
  ⟨some 30, .op (.mov (.t 8)), none, 10, [], [], false⟩,
  ⟨some 31, .call n_aes_Times [(.t 29), (.t 30)], none, 11, [], [], false⟩,
  ⟨some 32, .op (.bin .xor (.t 20) (.t 31)), none, 12, [], [], false⟩,
  ⟨some 6, .op (.mov (.t 32)), none, 13, [], [], false⟩])))
  (.seqr [
  ⟨some 33, .op (.bin .add (.t 16) (.c (.int .i64 1))), none, 0, [], [], false⟩,
  ⟨some 16, .op (.mov (.t 33)), none, 1, [], [], false⟩])))
def l_aes_block_mix_1 : DCode := .seq (.seqr [
  ⟨some 13, .op (.bin .lss (.t 12) (.c (.int .i64 16))), none, 0, [], [], false⟩])
  (.seq (.cond (.t 13)
  (.skip)
  (.exit 0))
  (.seq (.block 1 (.seq (.seqr [
  ⟨some 14, .op (.mov (.t 12)), none, 0, [], [], false⟩,
  ⟨some 5, .op (.mov (.t 14)), none, 1, [], [], false⟩])
  (.seq (.seqr [
  ⟨some 6, .op (.mov (.c (.int .u8 0))), none, 0, [], [], false⟩])
  (.seq (.seq (.seqr [
  ⟨some 15, .op (.load 4 true (.t 3)), none, 0, [], [], false⟩,
  ⟨some 16, .op (.mov (.c (.int .i64 0))), none, 1, [], [], false⟩])
  (.block 2 (.loop [0, 3, 4, 5, 6, 12, 15, 16] l_aes_block_mix_0)))
  (.seqr [
  ⟨some 34, .op (.mov (.t 0)), none, 0, [], [], false⟩,
  ⟨some 35, .op (.mov (.t 5)), none, 1, [], [], false⟩,
  ⟨some 36, .op (.mov (.t 6)), none, 2, [], [], false⟩,
  ⟨some 37, .op (.nilchk (.t 34)), none, 3, [], [], false⟩,
  ⟨some 38, .op (.iaddr (some 16) 1 (.t 37) (.t 35)), none, 4, [], [], false⟩,
  ⟨none, .op (.store 1 (.t 38) (.t 36)), none, 5, [], [], false⟩])))))
  (.seqr [
  ⟨some 39, .op (.bin .add (.t 12) (.c (.int .i64 1))), none, 0, [], [], false⟩,
  ⟨some 12, .op (.mov (.t 39)), none, 1, [], [], false⟩])))
def d_aes_block_mix : DFun := ⟨40, [false, true], [],
 .seq (.seqr [
  ⟨some 3, .op (.box 1 (.t 1)), none, 0, [], [], false⟩])
  (.seq (.seqr [
  ⟨some 9, .op (.mov (.t 0)), none, 0, [], [], false⟩,
  ⟨some 10, .op (.nilchk (.t 9)), none, 1, [], [], false⟩,
  ⟨some 11, .op (.load 16 true (.t 10)), none, 2, [], [], false⟩,
  ⟨some 4, .op (.alloc (.row (bytesV (List.replicate 16 0)) 1)), none, 3, [], [], false⟩,
  ⟨none, .op (.store 16 (.t 4) (.t 11)), none, 4, [], [], false⟩])
  (.seq (.seqr [
  ⟨some 12, .op (.mov (.c (.int .i64 0))), none, 0, [], [], false⟩])
  (.block 0 (.loop [0, 3, 4, 12] l_aes_block_mix_1))))⟩
/-! seneschal/sha.Parts -/
def l_sha_Parts_0 : DCode := .seq (.seqr [
  ⟨some 9, .op (.bin .lss (.t 8) (.t 7)), none, 0, [], [], false⟩])
  (.seq (.cond (.t 9)
  (.skip)
  (.exit 0))
  (.seq (.block 1 (.seq (.seqr [
  ⟨some 10, .op (.iaddr none 1 (.t 6) (.t 8)), none, 0, [], [], false⟩,
  ⟨some 11, .op (.load 1 false (.t 10)), none, 1, [], [], false⟩,
  ⟨some 5, .op (.mov (.t 11)), none, 2, [], [], false⟩])
  (.seqr [
  ⟨some 12, .op (.mov (.t 3)), none, 0, [], [], false⟩,
  ⟨some 13, .op (.mov (.t 5)), none, 1, [], [], false⟩,
  ⟨some 14, .op (.app 1 1 (.t 12) (.t 13)), none, 2, [], [], false⟩,
  ⟨some 3, .op (.mov (.t 14)), none, 3, [], [], false⟩])))
  (.seqr [
  ⟨some 15, .op (.bin .add (.t 8) (.c (.int .i64 1))), none, 0, [], [], false⟩,
  ⟨some 8, .op (.mov (.t 15)), none, 1, [], [], false⟩])))
def d_sha_Parts : DFun := ⟨18, [true], [.cell 2 32 true],
 .seq (.seqr [
  ⟨some 2, .op (.alloc (.row (bytesV (List.replicate 32 0)) 1)), none, 0, [], [], false⟩])
  (.seq (.seqr [
  ⟨some 3, .op (.mov (.c .nils)), none, 0, [], [], false⟩])
  (.seq (.seq (.seqr [
  ⟨some 6, .op (.mov (.t 0)), none, 0, [], [], false⟩,
  ⟨some 7, .op (.lenL (.t 6)), none, 1, [], [], false⟩,
  ⟨some 8, .op (.mov (.c (.int .i64 0))), none, 2, [], [], false⟩])
  (.block 0 (.loop [2, 3, 6, 7, 8] l_sha_Parts_0)))
  (.seq (.seqr [
  ⟨some 16, .op (.mov (.t 3)), none, 0, [], [], false⟩,
  ⟨some 17, .call n_sha_Sum [(.t 16)], none, 1, [], [], false⟩,
  ⟨none, .op (.store 32 (.t 2) (.t 17)), none, 2, [], [], false⟩])
  (.ret))))⟩
/-! seneschal/mac.padded -/
def l_mac_padded_0 : DCode := .seq (.seqr [
  ⟨some 19, .op (.bin .lss (.t 18) (.c (.int .i64 64))), none, 0, [], [], false⟩])
  (.seq (.cond (.t 19)
  (.skip)
  (.exit 3))
  (.seq (.block 4 (.seq (.seqr [
  ⟨some 20, .op (.mov (.t 18)), none, 0, [], [], false⟩,
  ⟨some 7, .op (.mov (.t 20)), none, 1, [], [], false⟩])
  (.seqr [
  ⟨some 21, .op (.mov (.t 7)), none, 0, [], [], false⟩,
  ⟨some 22, .op (.iaddr (some 64) 1 (.t 5) (.t 21)), none, 1, [], [], false⟩,
  ⟨some 23, .op (.load 1 false (.t 22)), none, 2, [], [], false⟩,
  ⟨some 24, .op (.mov (.t 1)), none, 3, [], [], false⟩,
  ⟨some 25, .op (.bin .xor (.t 23) (.t 24)), none, 4, [], [], false⟩,
  ⟨some 26, .op (.iaddr (some 64) 1 (.t 5) (.t 21)), none, 5, [], [], false⟩,
  ⟨none, .op (.store 1 (.t 26) (.t 25)), none, 6, [], [], false⟩])))
  (.seqr [
  ⟨some 27, .op (.bin .add (.t 18) (.c (.int .i64 1))), none, 0, [], [], false⟩,
  ⟨some 18, .op (.mov (.t 27)), none, 1, [], [], false⟩])))
def d_mac_padded : DFun := ⟨29, [true, true], [.tmp 4],
 .seq (.seqr [
  ⟨some 4, .op (.mov (.c .nils)), none, 0, [], [], false⟩])
  (.seq (.seqr [
  ⟨some 5, .op (.alloc (.row (bytesV (List.replicate 64 0)) 1)), none, 0, [], [], false⟩])
  (.seq (.block 0 (.seq (.block 2 (.seq (.block 1 (.seq (.seq (.seqr [
  ⟨some 9, .op (.mov (.t 0)), none, 0, [], [], false⟩,
  ⟨some 10, .op (.lenL (.t 9)), none, 1, [], [], false⟩,
  ⟨some 11, .op (.bin .gtr (.t 10) (.c (.int .i64 64))), none, 2, [], [], false⟩,
  ⟨some 8, .op (.mov (.t 11)), none, 3, [], [], false⟩])
  (.cond (.t 8)
  (.exit 1)
  (.skip)))
  (.exit 2)))
  (.seq (.seqr [
  ⟨some 12, .op (.mov (.t 0)), none, 0, [], [], false⟩,
  ⟨some 13, .call n_sha_Sum [(.t 12)], none, 1, [], [], false⟩,
  ⟨some 6, .op (.alloc (.row (bytesV (List.replicate 32 0)) 1)), none, 2, [], [], false⟩,
  ⟨none, .op (.store 32 (.t 6) (.t 13)), none, 3, [], [], false⟩])
  (.seqr [
  ⟨some 14, .op (.slcA 32 1 (.t 6) none none), none, 0, [], [], false⟩,
  ⟨some 0, .op (.mov (.t 14)), none, 1, [], [], false⟩]))))
  (.seq (.seqr [
  ⟨some 15, .op (.slcA 64 1 (.t 5) none none), none, 0, [], [], false⟩,
  ⟨some 16, .op (.mov (.t 0)), none, 1, [], [], false⟩,
  ⟨some 17, .op (.cpy 1 (.t 15) (.t 16)), none, 2, [], [], false⟩])
  (.exit 0))))
  (.seq (.seq (.seqr [
  ⟨some 18, .op (.mov (.c (.int .i64 0))), none, 0, [], [], false⟩])
  (.block 3 (.loop [1, 5, 18] l_mac_padded_0)))
  (.seq (.seqr [
  ⟨some 28, .op (.slcA 64 1 (.t 5) none none), none, 0, [], [], false⟩,
  ⟨some 4, .op (.mov (.t 28)), none, 1, [], [], false⟩])
  (.ret)))))⟩
/-! seneschal/mac.Same -/
def l_mac_Same_0 : DCode := .seq (.seqr [
  ⟨some 16, .op (.bin .lss (.t 15) (.t 14)), none, 0, [], [], false⟩])
  (.seq (.cond (.t 16)
  (.skip)
  (.exit 0))
  (.seq (.block 1 (.seq (.seqr [
  ⟨some 17, .op (.mov (.t 15)), none, 0, [], [], false⟩,
  ⟨some 18, .op (.iaddr none 1 (.t 13) (.t 15)), none, 1, [], [], false⟩,
  ⟨some 19, .op (.load 1 false (.t 18)), none, 2, [], [], false⟩,
  ⟨some 6, .op (.mov (.t 17)), none, 3, [], [], false⟩,
  ⟨some 7, .op (.mov (.t 19)), none, 4, [], [], false⟩])
  (.seqr [
  ⟨some 20, .op (.mov (.t 5)), none, 0, [], [], false⟩,
  ⟨some 21, .op (.mov (.t 7)), none, 1, [], [], false⟩,
  ⟨some 22, .op (.mov (.t 1)), none, 2, [], [], false⟩,
  ⟨some 23, .op (.mov (.t 6)), none, 3, [], [], false⟩,
  ⟨some 24, .op (.iaddr none 1 (.t 22) (.t 23)), none, 4, [], [], false⟩,
  ⟨some 25, .op (.load 1 false (.t 24)), none, 5, [], [], false⟩,
  ⟨some 26, .op (.bin .xor (.t 21) (.t 25)), none, 6, [], [], false⟩,
  ⟨some 27, .op (.bin .or (.t 20) (.t 26)), none, 7, [], [], false⟩,
  ⟨some 5, .op (.mov (.t 27)), none, 8, [], [], false⟩])))
  (.seqr [
  ⟨some 28, .op (.bin .add (.t 15) (.c (.int .i64 1))), none, 0, [], [], false⟩,
  ⟨some 15, .op (.mov (.t 28)), none, 1, [], [], false⟩])))
def d_mac_Same : DFun := ⟨31, [true, true], [.tmp 4],
 .seq (.seqr [
  ⟨some 4, .op (.mov (.c (.bool false))), none, 0, [], [], false⟩])
  (.seq (.seq (.seqr [
  ⟨some 8, .op (.mov (.t 0)), none, 0, [], [], false⟩,
  ⟨some 9, .op (.lenL (.t 8)), none, 1, [], [], false⟩,
  ⟨some 10, .op (.mov (.t 1)), none, 2, [], [], false⟩,
  ⟨some 11, .op (.lenL (.t 10)), none, 3, [], [], false⟩,
  ⟨some 12, .op (.bin .neq (.t 9) (.t 11)), none, 4, [], [], false⟩])
  (.cond (.t 12)
  (.seq (.seqr [
   ⟨some 4, .op (.mov (.c (.bool false))), none, 0, [], [], false⟩])
   (.ret))
  (.skip)))
  (.seq (.seqr [
  ⟨some 5, .op (.mov (.c (.int .u8 0))), none, 0, [], [], false⟩])
  (.seq (.seq (.seqr [
  ⟨some 13, .op (.mov (.t 0)), none, 0, [], [], false⟩,
  ⟨some 14, .op (.lenL (.t 13)), none, 1, [], [], false⟩,
  ⟨some 15, .op (.mov (.c (.int .i64 0))), none, 2, [], [], false⟩])
  (.block 0 (.loop [1, 5, 13, 14, 15] l_mac_Same_0)))
  (.seq (.seqr [
  ⟨some 29, .op (.mov (.t 5)), none, 0, [], [], false⟩,
  ⟨some 30, .op (.bin .eql (.t 29) (.c (.int .u8 0))), none, 1, [], [], false⟩,
  ⟨some 4, .op (.mov (.t 30)), none, 2, [], [], false⟩])
  (.ret)))))⟩
/-! seneschal/aes.back -/
def l_aes_back_0 : DCode := .seq (.seqr [
  ⟨some 7, .op (.bin .lss (.t 6) (.c (.int .i64 256))), none, 0, [], [], false⟩])
  (.seq (.cond (.t 7)
  (.skip)
  (.exit 0))
  (.seq (.block 1 (.seq (.seqr [
  ⟨some 8, .op (.mov (.t 6)), none, 0, [], [], false⟩,
  ⟨some 9, .op (.idxA 256 1 false (.t 5) (.t 6)), none, 1, [], [], false⟩,
  ⟨some 3, .op (.mov (.t 8)), none, 2, [], [], false⟩,
  ⟨some 4, .op (.mov (.t 9)), none, 3, [], [], false⟩])
  (.seq (.seqr [
  ⟨some 10, .op (.mov (.t 0)), none, 0, [], [], false⟩,
  ⟨some 11, .op (.mov (.t 4)), none, 1, [], [], false⟩,
  ⟨some 12, .op (.bin .eql (.t 10) (.t 11)), none, 2, [], [], false⟩])
  (.cond (.t 12)
  (.seq (.seqr [
   ⟨some 13, .op (.mov (.t 3)), none, 0, [], [], false⟩,
   ⟨some 14, .op (.conv .u8 (.t 13)), none, 1, [], [], false⟩,
   ⟨some 2, .op (.mov (.t 14)), none, 2, [], [], false⟩])
   (.ret))
  (.skip)))))
  (.seqr [
  ⟨some 15, .op (.bin .add (.t 6) (.c (.int .i64 1))), none, 0, [], [], false⟩,
  ⟨some 6, .op (.mov (.t 15)), none, 1, [], [], false⟩])))
def d_aes_back : DFun := ⟨16, [true], [.tmp 2],
 .seq (.seqr [
  ⟨some 2, .op (.mov (.c (.int .u8 0))), none, 0, [], [], false⟩])
  (.seq (.seq (.seqr [
  ⟨some 5, .call n_aes_box [], none, 0, [], [], false⟩,
  ⟨some 6, .op (.mov (.c (.int .i64 0))), none, 1, [], [], false⟩])
  (.block 0 (.loop [0, 5, 6] l_aes_back_0)))
  (.seq (.seqr [
  ⟨some 2, .op (.mov (.c (.int .u8 0))), none, 0, [], [], false⟩])
  (.ret)))⟩
/-! internal/strconv.small -/
def d_strconv_small : DFun := ⟨15, [true], [.tmp 2],
 .seq (.seqr [
  ⟨some 2, .op (.mov (.c (.str []))), none, 0, [], [], false⟩])
  (.seq (.seq (.seqr [
  ⟨some 3, .op (.mov (.t 0)), none, 0, [], [], false⟩,
  ⟨some 4, .op (.bin .lss (.t 3) (.c (.int .i64 10))), none, 1, [], [], false⟩])
  (.cond (.t 4)
  (.seq (.seqr [
   ⟨some 5, .op (.mov (.t 0)), none, 0, [], [], false⟩,
   ⟨some 6, .op (.mov (.t 0)), none, 1, [], [], false⟩,
   ⟨some 7, .op (.bin .add (.t 6) (.c (.int .i64 1))), none, 2, [], [], false⟩,
   ⟨some 8, .op (.slcS (.c (.str [48, 49, 50, 51, 52, 53, 54, 55, 56, 57, 97, 98, 99, 100, 101, 102, 103, 104, 105, 106, 107, 108, 109, 110, 111, 112, 113, 114, 115, 116, 117, 118, 119, 120, 121, 122])) (some (.t 5)) (some (.t 7))), none, 3, [], [], false⟩,
   ⟨some 2, .op (.mov (.t 8)), none, 4, [], [], false⟩])
   (.ret))
  (.skip)))
  (.seq (.seqr [
  ⟨some 9, .op (.mov (.t 0)), none, 0, [], [], false⟩,
  ⟨some 10, .op (.bin .mul (.t 9) (.c (.int .i64 2))), none, 1, [], [], false⟩,
  ⟨some 11, .op (.mov (.t 0)), none, 2, [], [], false⟩,
  ⟨some 12, .op (.bin .mul (.t 11) (.c (.int .i64 2))), none, 3, [], [], false⟩,
  ⟨some 13, .op (.bin .add (.t 12) (.c (.int .i64 2))), none, 4, [], [], false⟩,
  ⟨some 14, .op (.slcS (.c (.str [48, 48, 48, 49, 48, 50, 48, 51, 48, 52, 48, 53, 48, 54, 48, 55, 48, 56, 48, 57, 49, 48, 49, 49, 49, 50, 49, 51, 49, 52, 49, 53, 49, 54, 49, 55, 49, 56, 49, 57, 50, 48, 50, 49, 50, 50, 50, 51, 50, 52, 50, 53, 50, 54, 50, 55, 50, 56, 50, 57, 51, 48, 51, 49, 51, 50, 51, 51, 51, 52, 51, 53, 51, 54, 51, 55, 51, 56, 51, 57, 52, 48, 52, 49, 52, 50, 52, 51, 52, 52, 52, 53, 52, 54, 52, 55, 52, 56, 52, 57, 53, 48, 53, 49, 53, 50, 53, 51, 53, 52, 53, 53, 53, 54, 53, 55, 53, 56, 53, 57, 54, 48, 54, 49, 54, 50, 54, 51, 54, 52, 54, 53, 54, 54, 54, 55, 54, 56, 54, 57, 55, 48, 55, 49, 55, 50, 55, 51, 55, 52, 55, 53, 55, 54, 55, 55, 55, 56, 55, 57, 56, 48, 56, 49, 56, 50, 56, 51, 56, 52, 56, 53, 56, 54, 56, 55, 56, 56, 56, 57, 57, 48, 57, 49, 57, 50, 57, 51, 57, 52, 57, 53, 57, 54, 57, 55, 57, 56, 57, 57])) (some (.t 10)) (some (.t 13))), none, 5, [], [], false⟩,
  ⟨some 2, .op (.mov (.t 14)), none, 6, [], [], false⟩])
  (.ret)))⟩
/-! seneschal/aes.Keys -/
def l_aes_Keys_0 : DCode := .seq (.seqr [
  ⟨some 49, .op (.bin .lss (.t 48) (.c (.int .i64 16))), none, 0, [], [], false⟩])
  (.seq (.cond (.t 49)
  (.skip)
  (.exit 2))
  (.seq (.block 3 (.seq (.seqr [
  ⟨some 50, .op (.mov (.t 48)), none, 0, [], [], false⟩,
  ⟨some 10, .op (.mov (.t 50)), none, 1, [], [], false⟩])
  (.seq (.drwr [
  ⟨some 51, .op (.mov (.t 10)), none, 0, [], [], false⟩,
  ⟨some 52, .op (.bin .rem (.t 51) (.c (.int .i64 4))), none, 1, [], [], false⟩,
  ⟨some 53, .op (.iaddr (some 4) 1 (.t 9) (.t 52)), none, 2, [], [], false⟩,
  ⟨some 54, .op (.load 1 false (.t 53)), none, 3, [], [], false⟩,
  ⟨some 55, .op (.mov (.t 10)), none, 4, [], [], false⟩,
  ⟨some 56, .op (.iaddr (some 16) 1 (.t 7) (.t 55)), none, 5, [], [], false⟩,
  ⟨some 57, .op (.load 1 false (.t 56)), none, 6, [], [], false⟩,
  ⟨some 58, .op (.bin .xor (.t 54) (.t 57)), none, 7, [], [], false⟩,
  ⟨some 59, .op (.iaddr (some 4) 1 (.t 9) (.t 52)), none, 8, [], [], false⟩,
  ⟨none, .op (.store 1 (.t 59) (.t 58)), none, 9, [], [], false⟩])
  (.drwr [
  ⟨some 60, .op (.mov (.t 8)), none, 0, [], [], false⟩,
  ⟨some 61, .op (.mov (.t 10)), none, 1, [], [], false⟩,
  ⟨some 62, .op (.mov (.t 10)), none, 2, [], [], false⟩,
  ⟨some 63, .op (.bin .rem (.t 62) (.c (.int .i64 4))), none, 3, [], [], false⟩,
  ⟨some 64, .op (.iaddr (some 4) 1 (.t 9) (.t 63)), none, 4, [], [], false⟩,
  ⟨some 65, .op (.load 1 false (.t 64)), none, 5, [], [], false⟩,
  ⟨some 66, .op (.nilchk (.t 60)), none, 6, [], [], false⟩,
  ⟨some 67, .op (.iaddr (some 16) 1 (.t 66) (.t 61)), none, 7, [], [], false⟩,
  ⟨none, .op (.store 1 (.t 67) (.t 65)), none, 8, [], [], false⟩]))))
  (.seqr [
  ⟨some 68, .op (.bin .add (.t 48) (.c (.int .i64 1))), none, 0, [], [], false⟩,
  ⟨some 48, .op (.mov (.t 68)), none, 1, [], [], false⟩])))
def l_aes_Keys_1 : DCode := .seq (.seq (.seqr [
  ⟨some 19, .op (.mov (.t 6)), none, 0, [], [], false⟩,
  ⟨some 20, .op (.bin .leq (.t 19) (.c (.int .i64 10))), none, 1, [], [], false⟩])
  (.cond (.t 20)
  (.skip)
  (.exit 0)))
  (.seq (.block 1 (.seq (.drwr [
  ⟨some 23, .op (.mov (.t 6)), none, 0, [], [], false⟩,
  ⟨some 24, .op (.bin .sub (.t 23) (.c (.int .i64 1))), none, 1, [], [], false⟩,
  ⟨some 25, .op (.iaddr (some 11) 16 (.t 4) (.t 24)), none, 2, [], [], false⟩,
  ⟨some 26, .op (.load 16 true (.t 25)), none, 3, [], [], false⟩,
  ⟨some 27, .op (.mov (.t 6)), none, 4, [], [], false⟩,
  ⟨some 7, .op (.alloc (.row (bytesV (List.replicate 16 0)) 1)), none, 6, [], [], false⟩,
  ⟨none, .op (.store 16 (.t 7) (.t 26)), none, 7, [5], [], false⟩,
  ⟨some 28, .op (.iaddr (some 11) 16 (.t 4) (.t 27)), none, 5, [], [6], false⟩,
  ⟨some 8, .op (.mov (.t 28)), none, 8, [], [], false⟩])
  (.seq (.drwr [
  ⟨some 29, .call n_aes_box [], none, 0, [], [], false⟩,
  ⟨some 33, .op (.mov (.t 5)), none, 4, [], [], false⟩,
  ⟨some 35, .call n_aes_box [], none, 6, [0], [], false⟩,
  ⟨some 39, .call n_aes_box [], none, 10, [0, 2], [], false⟩,
  ⟨some 43, .call n_aes_box [], none, 14, [0, 2, 3], [], false⟩,
  ⟨some 30, .op (.iaddr (some 16) 1 (.t 7) (.c (.int .i64 13))), none, 1, [], [0, 2, 3, 4], false⟩,
  ⟨some 31, .op (.load 1 false (.t 30)), none, 2, [], [0, 2, 3, 4], false⟩,
  ⟨some 32, .op (.idxA 256 1 false (.t 29) (.t 31)), none, 3, [], [], false⟩,
  ⟨some 34, .op (.bin .xor (.t 32) (.t 33)), none, 5, [], [], false⟩,
  ⟨some 36, .op (.iaddr (some 16) 1 (.t 7) (.c (.int .i64 14))), none, 7, [], [0, 2, 3, 4], false⟩,
  ⟨some 37, .op (.load 1 false (.t 36)), none, 8, [], [0, 2, 3, 4], false⟩,
  ⟨some 38, .op (.idxA 256 1 false (.t 35) (.t 37)), none, 9, [], [], false⟩,
  ⟨some 40, .op (.iaddr (some 16) 1 (.t 7) (.c (.int .i64 15))), none, 11, [], [0, 2, 3, 4], false⟩,
  ⟨some 41, .op (.load 1 false (.t 40)), none, 12, [], [0, 2, 3, 4], false⟩,
  ⟨some 42, .op (.idxA 256 1 false (.t 39) (.t 41)), none, 13, [], [], false⟩,
  ⟨some 44, .op (.iaddr (some 16) 1 (.t 7) (.c (.int .i64 12))), none, 15, [], [0, 2, 3, 4], false⟩,
  ⟨some 45, .op (.load 1 false (.t 44)), none, 16, [], [0, 2, 3, 4], false⟩,
  ⟨some 46, .op (.idxA 256 1 false (.t 43) (.t 45)), none, 17, [], [], false⟩,
  ⟨some 47, .op (.build (bytesV (List.replicate 4 0)) [(0, 1, (.t 34)), (1, 1, (.t 38)), (2, 1, (.t 42)), (3, 1, (.t 46))]), none, 18, [], [], false⟩,
  ⟨some 9, .op (.alloc (.row (bytesV (List.replicate 4 0)) 1)), none, 19, [], [0, 2, 3, 4], false⟩,
  ⟨none, .op (.store 4 (.t 9) (.t 47)), none, 20, [0, 2, 3, 4, 19], [], false⟩])
  (.seq (.seq (.seqr [
  ⟨some 48, .op (.mov (.c (.int .i64 0))), none, 0, [], [], false⟩])
  (.block 2 (.loop [2, 4, 5, 6, 7, 8, 9, 48] l_aes_Keys_0)))
  (.seqr [
  ⟨some 69, .op (.mov (.t 5)), none, 0, [], [], false⟩,
  ⟨some 70, .call n_aes_twice [(.t 69)], none, 1, [], [], false⟩,
  ⟨some 5, .op (.mov (.t 70)), none, 2, [], [], false⟩])))))
  (.seqr [
  ⟨some 21, .op (.mov (.t 6)), none, 0, [], [], false⟩,
  ⟨some 22, .op (.bin .add (.t 21) (.c (.int .i64 1))), none, 1, [], [], false⟩,
  ⟨some 6, .op (.mov (.t 22)), none, 2, [], [], false⟩]))
def d_aes_Keys : DFun := ⟨72, [true], [.cell 2 176 true, .tmp 3],
 .seq (.seqr [
  ⟨some 2, .op (.alloc (.row (List.replicate 11 (.agg (bytesV (List.replicate 16 0)))) 16)), none, 0, [], [], false⟩,
  ⟨some 3, .op (.mov (.c (.int .i64 0))), none, 1, [], [], false⟩])
  (.seq (.seqr [
  ⟨some 4, .op (.alloc (.row (List.replicate 11 (.agg (bytesV (List.replicate 16 0)))) 16)), none, 0, [], [], false⟩])
  (.seq (.seq (.seqr [
  ⟨some 11, .op (.mov (.t 0)), none, 0, [], [], false⟩,
  ⟨some 12, .op (.lenL (.t 11)), none, 1, [], [], false⟩,
  ⟨some 13, .op (.bin .neq (.t 12) (.c (.int .i64 16))), none, 2, [], [], false⟩])
  (.cond (.t 13)
  (.seq (.seqr [
   ⟨some 14, .op (.load 176 true (.t 4)), none, 0, [], [], false⟩,
   ⟨none, .op (.store 176 (.t 2) (.t 14)), none, 1, [], [], false⟩,
   ⟨some 3, .op (.mov (.c (.int .i64 2))), none, 2, [], [], false⟩])
   (.ret))
  (.skip)))
  (.seq (.seqr [
  ⟨some 15, .op (.mov (.t 0)), none, 0, [], [], false⟩,
  ⟨some 16, .op (.s2ap 16 (.t 15)), none, 1, [], [], false⟩,
  ⟨some 17, .op (.load 16 true (.t 16)), none, 2, [], [], false⟩,
  ⟨some 18, .op (.iaddr (some 11) 16 (.t 4) (.c (.int .i64 0))), none, 3, [], [], false⟩,
  ⟨none, .op (.store 16 (.t 18) (.t 17)), none, 4, [], [], false⟩])
  (.seq (.seqr [
  ⟨some 5, .op (.mov (.c (.int .u8 1))), none, 0, [], [], false⟩])
  (.seq (.seq (.seqr [
  ⟨some 6, .op (.mov (.c (.int .i64 1))), none, 0, [], [], false⟩])
  (.block 0 (.loop [2, 4, 5, 6] l_aes_Keys_1)))
  (.seq (.seqr [
  ⟨some 71, .op (.load 176 true (.t 4)), none, 0, [], [], false⟩,
  ⟨none, .op (.store 176 (.t 2) (.t 71)), none, 1, [], [], false⟩,
  ⟨some 3, .op (.mov (.c (.int .i64 0))), none, 2, [], [], false⟩])
  (.ret)))))))⟩
/-! seneschal/aes.Times -/
def l_aes_Times_0 : DCode := .seq (.seq (.seqr [
  ⟨some 6, .op (.mov (.t 1)), none, 0, [], [], false⟩,
  ⟨some 7, .op (.bin .neq (.t 6) (.c (.int .u8 0))), none, 1, [], [], false⟩])
  (.cond (.t 7)
  (.skip)
  (.exit 0)))
  (.seq (.block 1 (.seqr [
  ⟨some 12, .op (.mov (.t 5)), none, 0, [], [], false⟩,
  ⟨some 13, .op (.mov (.t 0)), none, 1, [], [], false⟩,
  ⟨some 14, .op (.mov (.t 1)), none, 2, [], [], false⟩,
  ⟨some 15, .op (.bin .and (.t 14) (.c (.int .u8 1))), none, 3, [], [], false⟩,
  ⟨some 16, .op (.bin .mul (.t 13) (.t 15)), none, 4, [], [], false⟩,
  ⟨some 17, .op (.bin .xor (.t 12) (.t 16)), none, 5, [], [], false⟩,
  ⟨some 5, .op (.mov (.t 17)), none, 6, [], [], false⟩]))
  (.seqr [
  ⟨some 8, .op (.mov (.t 0)), none, 0, [], [], false⟩,
  ⟨some 9, .call n_aes_twice [(.t 8)], none, 1, [], [], false⟩,
  ⟨some 10, .op (.mov (.t 1)), none, 2, [], [], false⟩,
  ⟨some 11, .op (.bin .shr (.t 10) (.c (.int .u64 1))), none, 3, [], [], false⟩,
  ⟨some 0, .op (.mov (.t 9)), none, 4, [], [], false⟩,
  ⟨some 1, .op (.mov (.t 11)), none, 5, [], [], false⟩]))
def d_aes_Times : DFun := ⟨19, [true, true], [.tmp 4],
 .seq (.seqr [
  ⟨some 4, .op (.mov (.c (.int .u8 0))), none, 0, [], [], false⟩])
  (.seq (.seqr [
  ⟨some 5, .op (.mov (.c (.int .u8 0))), none, 0, [], [], false⟩])
  (.seq (.block 0 (.loop [0, 1, 5] l_aes_Times_0))
  (.seq (.seqr [
  ⟨some 18, .op (.mov (.t 5)), none, 0, [], [], false⟩,
  ⟨some 4, .op (.mov (.t 18)), none, 1, [], [], false⟩])
  (.ret))))⟩
/-! seneschal/sha.Sum -/
def l_sha_Sum_0 : DCode := .seq (.seq (.seqr [
  ⟨some 11, .op (.mov (.t 4)), none, 0, [], [], false⟩,
  ⟨some 12, .op (.lenL (.t 11)), none, 1, [], [], false⟩,
  ⟨some 13, .op (.bin .gtr (.t 12) (.c (.int .i64 0))), none, 2, [], [], false⟩])
  (.cond (.t 13)
  (.skip)
  (.exit 0)))
  (.seq (.block 1 (.drwr [
  ⟨some 16, .op (.load 8 true (.t 3)), none, 0, [], [], false⟩,
  ⟨some 17, .op (.mov (.t 4)), none, 1, [], [], false⟩,
  ⟨some 18, .op (.slcL 1 (.t 17) none (some (.c (.int .i64 64)))), none, 2, [], [], false⟩,
  ⟨some 19, .op (.s2ap 64 (.t 18)), none, 3, [], [], false⟩,
  ⟨some 20, .op (.load 64 true (.t 19)), none, 4, [], [], false⟩,
  ⟨some 21, .call n_sha_Block [(.t 16), (.t 20)], none, 5, [], [], false⟩,
  ⟨none, .op (.store 8 (.t 3) (.t 21)), none, 6, [5], [], false⟩]))
  (.seqr [
  ⟨some 14, .op (.mov (.t 4)), none, 0, [], [], false⟩,
  ⟨some 15, .op (.slcL 1 (.t 14) (some (.c (.int .i64 64))) none), none, 1, [], [], false⟩,
  ⟨some 4, .op (.mov (.t 15)), none, 2, [], [], false⟩]))
def l_sha_Sum_1 : DCode := .seq (.seqr [
  ⟨some 24, .op (.bin .lss (.t 23) (.c (.int .i64 8))), none, 0, [], [], false⟩])
  (.seq (.cond (.t 24)
  (.skip)
  (.exit 2))
  (.seq (.block 3 (.seq (.seqr [
  ⟨some 25, .op (.mov (.t 23)), none, 0, [], [], false⟩,
  ⟨some 26, .op (.idxA 8 1 false (.t 22) (.t 23)), none, 1, [], [], false⟩,
  ⟨some 6, .op (.mov (.t 25)), none, 2, [], [], false⟩,
  ⟨some 7, .op (.mov (.t 26)), none, 3, [], [], false⟩])
  (.seqr [
  ⟨some 27, .op (.mov (.t 6)), none, 0, [], [], false⟩,
  ⟨some 28, .op (.bin .mul (.c (.int .i64 4)) (.t 27)), none, 1, [], [], false⟩,
  ⟨some 29, .op (.mov (.t 6)), none, 2, [], [], false⟩,
  ⟨some 30, .op (.bin .mul (.c (.int .i64 4)) (.t 29)), none, 3, [], [], false⟩,
  ⟨some 31, .op (.bin .add (.t 30) (.c (.int .i64 1))), none, 4, [], [], false⟩,
  ⟨some 32, .op (.mov (.t 6)), none, 5, [], [], false⟩,
  ⟨some 33, .op (.bin .mul (.c (.int .i64 4)) (.t 32)), none, 6, [], [], false⟩,
  ⟨some 34, .op (.bin .add (.t 33) (.c (.int .i64 2))), none, 7, [], [], false⟩,
  ⟨some 35, .op (.mov (.t 6)), none, 8, [], [], false⟩,
  ⟨some 36, .op (.bin .mul (.c (.int .i64 4)) (.t 35)), none, 9, [], [], false⟩,
  ⟨some 37, .op (.bin .add (.t 36) (.c (.int .i64 3))), none, 10, [], [], false⟩,
  ⟨some 38, .op (.mov (.t 7)), none, 11, [], [], false⟩,
  ⟨some 39, .op (.bin .shr (.t 38) (.c (.int .u64 24))), none, 12, [], [], false⟩,
  ⟨some 40, .op (.conv .u8 (.t 39)), none, 13, [], [], false⟩,
  ⟨some 41, .op (.mov (.t 7)), none, 14, [], [], false⟩,
  ⟨some 42, .op (.bin .shr (.t 41) (.c (.int .u64 16))), none, 15, [], [], false⟩,
  ⟨some 43, .op (.conv .u8 (.t 42)), none, 16, [], [], false⟩,
  ⟨some 44, .op (.mov (.t 7)), none, 17, [], [], false⟩,
  ⟨some 45, .op (.bin .shr (.t 44) (.c (.int .u64 8))), none, 18, [], [], false⟩,
  ⟨some 46, .op (.conv .u8 (.t 45)), none, 19, [], [], false⟩,
  ⟨some 47, .op (.mov (.t 7)), none, 20, [], [], false⟩,
  ⟨some 48, .op (.conv .u8 (.t 47)), none, 21, [], [], false⟩,
  ⟨some 49, .op (.iaddr (some 32) 1 (.t 5) (.t 28)), none, 22, [], [], false⟩,
  ⟨none, .op (.store 1 (.t 49) (.t 40)), none, 23, [], [], false⟩,
  ⟨some 50, .op (.iaddr (some 32) 1 (.t 5) (.t 31)), none, 24, [], [], false⟩,
  ⟨none, .op (.store 1 (.t 50) (.t 43)), none, 25, [], [], false⟩,
  ⟨some 51, .op (.iaddr (some 32) 1 (.t 5) (.t 34)), none, 26, [], [], false⟩,
  ⟨none, .op (.store 1 (.t 51) (.t 46)), none, 27, [], [], false⟩,
  ⟨some 52, .op (.iaddr (some 32) 1 (.t 5) (.t 37)), none, 28, [], [], false⟩,
  ⟨none, .op (.store 1 (.t 52) (.t 48)), none, 29, [], [], false⟩])))
  (.seqr [
  ⟨some 53, .op (.bin .add (.t 23) (.c (.int .i64 1))), none, 0, [], [], false⟩,
  ⟨some 23, .op (.mov (.t 53)), none, 1, [], [], false⟩])))
def d_sha_Sum : DFun := ⟨55, [true], [.cell 2 32 true],
 .seq (.seqr [
  ⟨some 2, .op (.alloc (.row (bytesV (List.replicate 32 0)) 1)), none, 0, [], [], false⟩])
  (.seq (.seqr [
  ⟨some 8, .call n_sha_first [], none, 0, [], [], false⟩,
  ⟨some 3, .op (.alloc (.row (wordsV (List.replicate 8 0)) 1)), none, 1, [], [], false⟩,
  ⟨none, .op (.store 8 (.t 3) (.t 8)), none, 2, [], [], false⟩])
  (.seq (.seq (.seqr [
  ⟨some 9, .op (.mov (.t 0)), none, 0, [], [], false⟩,
  ⟨some 10, .call n_sha_Pad [(.t 9)], none, 1, [], [], false⟩,
  ⟨some 4, .op (.mov (.t 10)), none, 2, [], [], false⟩])
  (.block 0 (.loop [2, 3, 4] l_sha_Sum_0)))
  (.seq (.seqr [
  ⟨some 5, .op (.alloc (.row (bytesV (List.replicate 32 0)) 1)), none, 0, [], [], false⟩])
  (.seq (.seq (.seqr [
  ⟨some 22, .op (.load 8 true (.t 3)), none, 0, [], [], false⟩,
  ⟨some 23, .op (.mov (.c (.int .i64 0))), none, 1, [], [], false⟩])
  (.block 2 (.loop [2, 5, 22, 23] l_sha_Sum_1)))
  (.seq (.seqr [
  ⟨some 54, .op (.load 32 true (.t 5)), none, 0, [], [], false⟩,
  ⟨none, .op (.store 32 (.t 2) (.t 54)), none, 1, [], [], false⟩])
  (.ret))))))⟩
/-! seneschal/aes.twice -/
def d_aes_twice : DFun := ⟨9, [true], [.tmp 2],
 .seq (.seqr [
  ⟨some 2, .op (.mov (.c (.int .u8 0))), none, 0, [], [], false⟩])
  (.seq (.seqr [
  ⟨some 3, .op (.mov (.t 0)), none, 0, [], [], false⟩,
  ⟨some 4, .op (.bin .shl (.t 3) (.c (.int .u64 1))), none, 1, [], [], false⟩,
  ⟨some 5, .op (.mov (.t 0)), none, 2, [], [], false⟩,
  ⟨some 6, .op (.bin .shr (.t 5) (.c (.int .u64 7))), none, 3, [], [], false⟩,
  ⟨some 7, .op (.bin .mul (.t 6) (.c (.int .u8 27))), none, 4, [], [], false⟩,
  ⟨some 8, .op (.bin .xor (.t 4) (.t 7)), none, 5, [], [], false⟩,
  ⟨some 2, .op (.mov (.t 8)), none, 6, [], [], false⟩])
  (.ret))⟩
/-! seneschal/sha.first -/
def d_sha_first : DFun := ⟨2, [], [.cell 0 8 true],
 .seq (.seqr [
  ⟨some 0, .op (.alloc (.row (wordsV (List.replicate 8 0)) 1)), none, 0, [], [], false⟩])
  (.seq (.seqr [
  ⟨some 1, .op (.build (wordsV (List.replicate 8 0)) [(0, 1, (.c (.int .u32 1779033703))), (1, 1, (.c (.int .u32 3144134277))), (2, 1, (.c (.int .u32 1013904242))), (3, 1, (.c (.int .u32 2773480762))), (4, 1, (.c (.int .u32 1359893119))), (5, 1, (.c (.int .u32 2600822924))), (6, 1, (.c (.int .u32 528734635))), (7, 1, (.c (.int .u32 1541459225)))]), none, 0, [], [], false⟩,
  ⟨none, .op (.store 8 (.t 0) (.t 1)), none, 1, [], [], false⟩])
  (.ret))⟩
/-! seneschal/sha.Pad -/
def l_sha_Pad_0 : DCode := .seq (.seq (.seqr [
  ⟨some 28, .op (.mov (.t 6)), none, 0, [], [], false⟩,
  ⟨some 29, .op (.bin .gtr (.t 28) (.c (.int .u64 0))), none, 1, [], [], false⟩])
  (.cond (.t 29)
  (.skip)
  (.exit 0)))
  (.seq (.block 1 (.seqr [
  ⟨some 34, .op (.mov (.t 4)), none, 0, [], [], false⟩,
  ⟨some 35, .op (.mov (.t 5)), none, 1, [], [], false⟩,
  ⟨some 36, .op (.mov (.t 6)), none, 2, [], [], false⟩,
  ⟨some 37, .op (.conv .u8 (.t 36)), none, 3, [], [], false⟩,
  ⟨some 38, .op (.iaddr none 1 (.t 34) (.t 35)), none, 4, [], [], false⟩,
  ⟨none, .op (.store 1 (.t 38) (.t 37)), none, 5, [], [], false⟩]))
  (.seqr [
  ⟨some 30, .op (.mov (.t 5)), none, 0, [], [], false⟩,
  ⟨some 31, .op (.bin .sub (.t 30) (.c (.int .i64 1))), none, 1, [], [], false⟩,
  ⟨some 32, .op (.mov (.t 6)), none, 2, [], [], false⟩,
  ⟨some 33, .op (.bin .shr (.t 32) (.c (.int .u64 8))), none, 3, [], [], false⟩,
  ⟨some 5, .op (.mov (.t 31)), none, 4, [], [], false⟩,
  ⟨some 6, .op (.mov (.t 33)), none, 5, [], [], false⟩]))
def d_sha_Pad : DFun := ⟨40, [true], [.tmp 2],
 .seq (.seqr [
  ⟨some 2, .op (.mov (.c .nils)), none, 0, [], [], false⟩])
  (.seq (.seqr [
  ⟨some 7, .op (.mov (.t 0)), none, 0, [], [], false⟩,
  ⟨some 8, .op (.lenL (.t 7)), none, 1, [], [], false⟩,
  ⟨some 9, .op (.bin .add (.t 8) (.c (.int .i64 8))), none, 2, [], [], false⟩,
  ⟨some 10, .op (.bin .add (.t 9) (.c (.int .i64 64))), none, 3, [], [], false⟩,
  ⟨some 11, .op (.bin .quo (.t 10) (.c (.int .i64 64))), none, 4, [], [], false⟩,
  ⟨some 12, .op (.bin .mul (.t 11) (.c (.int .i64 64))), none, 5, [], [], false⟩,
  ⟨some 3, .op (.mov (.t 12)), none, 6, [], [], false⟩])
  (.seq (.seqr [
  ⟨some 13, .op (.mov (.t 3)), none, 0, [], [], false⟩,
  ⟨some 14, .op (.mksl 1 (.int .u8 0) 1 (.t 13) (.t 13)), none, 1, [], [], false⟩,
  ⟨some 4, .op (.mov (.t 14)), none, 2, [], [], false⟩])
  (.seq (.seqr [
  ⟨some 15, .op (.mov (.t 4)), none, 0, [], [], false⟩,
  ⟨some 16, .op (.mov (.t 0)), none, 1, [], [], false⟩,
  ⟨some 17, .op (.cpy 1 (.t 15) (.t 16)), none, 2, [], [], false⟩])
  (.seq (.seqr [
  ⟨some 18, .op (.mov (.t 4)), none, 0, [], [], false⟩,
  ⟨some 19, .op (.mov (.t 0)), none, 1, [], [], false⟩,
  ⟨some 20, .op (.lenL (.t 19)), none, 2, [], [], false⟩,
  ⟨some 21, .op (.iaddr none 1 (.t 18) (.t 20)), none, 3, [], [], false⟩,
  ⟨none, .op (.store 1 (.t 21) (.c (.int .u8 128))), none, 4, [], [], false⟩])
  (.seq (.seq (.seqr [
  ⟨some 22, .op (.mov (.t 3)), none, 0, [], [], false⟩,
  ⟨some 23, .op (.bin .sub (.t 22) (.c (.int .i64 1))), none, 1, [], [], false⟩,
  ⟨some 24, .op (.mov (.t 0)), none, 2, [], [], false⟩,
  ⟨some 25, .op (.lenL (.t 24)), none, 3, [], [], false⟩,
  ⟨some 26, .op (.conv .u64 (.t 25)), none, 4, [], [], false⟩,
  ⟨some 27, .op (.bin .mul (.t 26) (.c (.int .u64 8))), none, 5, [], [], false⟩,
  ⟨some 5, .op (.mov (.t 23)), none, 6, [], [], false⟩,
  ⟨some 6, .op (.mov (.t 27)), none, 7, [], [], false⟩])
  (.block 0 (.loop [4, 5, 6] l_sha_Pad_0)))
  (.seq (.seqr [
  ⟨some 39, .op (.mov (.t 4)), none, 0, [], [], false⟩,
  ⟨some 2, .op (.mov (.t 39)), none, 1, [], [], false⟩])
  (.ret)))))))⟩
/-! seneschal/sha.Block -/
def l_sha_Block_0 : DCode := .seq (.seqr [
  ⟨some 40, .op (.bin .lss (.t 39) (.c (.int .i64 64))), none, 0, [], [], false⟩])
  (.seq (.cond (.t 40)
  (.skip)
  (.exit 0))
  (.seq (.block 1 (.seq (.seqr [
  ⟨some 41, .op (.mov (.t 39)), none, 0, [], [], false⟩,
  ⟨some 42, .op (.idxA 64 1 false (.t 38) (.t 39)), none, 1, [], [], false⟩,
  ⟨some 14, .op (.mov (.t 41)), none, 2, [], [], false⟩,
  ⟨some 15, .op (.mov (.t 42)), none, 3, [], [], false⟩])
  (.seq (.drwr [
  ⟨some 43, .op (.mov (.t 13)), none, 0, [], [], false⟩,
  ⟨some 44, .op (.mov (.t 10)), none, 1, [], [], false⟩,
  ⟨some 45, .call n_sha_right [(.t 44), (.c (.int .i64 6))], none, 2, [], [], false⟩,
  ⟨some 46, .op (.mov (.t 10)), none, 3, [], [], false⟩,
  ⟨some 47, .call n_sha_right [(.t 46), (.c (.int .i64 11))], none, 4, [2], [], false⟩,
  ⟨some 48, .op (.bin .xor (.t 45) (.t 47)), none, 5, [], [], false⟩,
  ⟨some 49, .op (.mov (.t 10)), none, 6, [], [], false⟩,
  ⟨some 50, .call n_sha_right [(.t 49), (.c (.int .i64 25))], none, 7, [2, 4], [], false⟩,
  ⟨some 51, .op (.bin .xor (.t 48) (.t 50)), none, 8, [], [], false⟩,
  ⟨some 52, .op (.bin .add (.t 43) (.t 51)), none, 9, [], [], false⟩,
  ⟨some 53, .op (.mov (.t 10)), none, 10, [], [], false⟩,
  ⟨some 54, .op (.mov (.t 11)), none, 11, [], [], false⟩,
  ⟨some 55, .op (.bin .and (.t 53) (.t 54)), none, 12, [], [], false⟩,
  ⟨some 56, .op (.mov (.t 10)), none, 13, [], [], false⟩,
  ⟨some 57, .op (.un .xor (.t 56)), none, 14, [], [], false⟩,
  ⟨some 58, .op (.mov (.t 12)), none, 15, [], [], false⟩,
  ⟨some 59, .op (.bin .and (.t 57) (.t 58)), none, 16, [], [], false⟩,
  ⟨some 60, .op (.bin .xor (.t 55) (.t 59)), none, 17, [], [], false⟩,
  ⟨some 61, .op (.bin .add (.t 52) (.t 60)), none, 18, [], [], false⟩,
  ⟨some 62, .op (.mov (.t 15)), none, 19, [], [], false⟩,
  ⟨some 63, .op (.bin .add (.t 61) (.t 62)), none, 20, [], [], false⟩,
  ⟨some 64, .op (.mov (.t 14)), none, 21, [], [], false⟩,
  ⟨some 65, .op (.iaddr (some 64) 1 (.t 5) (.t 64)), none, 22, [], [2, 4, 7], false⟩,
  ⟨some 66, .op (.load 1 false (.t 65)), none, 23, [], [2, 4, 7], false⟩,
  ⟨some 67, .op (.bin .add (.t 63) (.t 66)), none, 24, [], [], false⟩,
  ⟨some 16, .op (.mov (.t 67)), none, 25, [], [], false⟩])
  (.seq (.seqr [
  ⟨some 68, .op (.mov (.t 6)), none, 0, [], [], false⟩,
  ⟨some 69, .call n_sha_right [(.t 68), (.c (.int .i64 2))], none, 1, [], [], false⟩,
  ⟨some 70, .op (.mov (.t 6)), none, 2, [], [], false⟩,
  ⟨some 71, .call n_sha_right [(.t 70), (.c (.int .i64 13))], none, 3, [], [], false⟩,
  ⟨some 72, .op (.bin .xor (.t 69) (.t 71)), none, 4, [], [], false⟩,
  ⟨some 73, .op (.mov (.t 6)), none, 5, [], [], false⟩,
  ⟨some 74, .call n_sha_right [(.t 73), (.c (.int .i64 22))], none, 6, [], [], false⟩,
  ⟨some 75, .op (.bin .xor (.t 72) (.t 74)), none, 7, [], [], false⟩,
  ⟨some 76, .op (.mov (.t 6)), none, 8, [], [], false⟩,
  ⟨some 77, .op (.mov (.t 7)), none, 9, [], [], false⟩,
  ⟨some 78, .op (.bin .and (.t 76) (.t 77)), none, 10, [], [], false⟩,
  ⟨some 79, .op (.mov (.t 6)), none, 11, [], [], false⟩,
  ⟨some 80, .op (.mov (.t 8)), none, 12, [], [], false⟩,
  ⟨some 81, .op (.bin .and (.t 79) (.t 80)), none, 13, [], [], false⟩,
  ⟨some 82, .op (.bin .xor (.t 78) (.t 81)), none, 14, [], [], false⟩,
  ⟨some 83, .op (.mov (.t 7)), none, 15, [], [], false⟩,
  ⟨some 84, .op (.mov (.t 8)), none, 16, [], [], false⟩,
  ⟨some 85, .op (.bin .and (.t 83) (.t 84)), none, 17, [], [], false⟩,
  ⟨some 86, .op (.bin .xor (.t 82) (.t 85)), none, 18, [], [], false⟩,
  ⟨some 87, .op (.bin .add (.t 75) (.t 86)), none, 19, [], [], false⟩,
  ⟨some 17, .op (.mov (.t 87)), none, 20, [], [], false⟩])
  (.seq (.seqr [
  ⟨some 88, .op (.mov (.t 12)), none, 0, [], [], false⟩,
  ⟨some 89, .op (.mov (.t 11)), none, 1, [], [], false⟩,
  ⟨some 90, .op (.mov (.t 10)), none, 2, [], [], false⟩,
  ⟨some 91, .op (.mov (.t 9)), none, 3, [], [], false⟩,
  ⟨some 92, .op (.mov (.t 16)), none, 4, [], [], false⟩,
  ⟨some 93, .op (.bin .add (.t 91) (.t 92)), none, 5, [], [], false⟩,
  ⟨some 13, .op (.mov (.t 88)), none, 6, [], [], false⟩,
  ⟨some 12, .op (.mov (.t 89)), none, 7, [], [], false⟩,
  ⟨some 11, .op (.mov (.t 90)), none, 8, [], [], false⟩,
  ⟨some 10, .op (.mov (.t 93)), none, 9, [], [], false⟩])
  (.seqr [
  ⟨some 94, .op (.mov (.t 8)), none, 0, [], [], false⟩,
  ⟨some 95, .op (.mov (.t 7)), none, 1, [], [], false⟩,
  ⟨some 96, .op (.mov (.t 6)), none, 2, [], [], false⟩,
  ⟨some 97, .op (.mov (.t 16)), none, 3, [], [], false⟩,
  ⟨some 98, .op (.mov (.t 17)), none, 4, [], [], false⟩,
  ⟨some 99, .op (.bin .add (.t 97) (.t 98)), none, 5, [], [], false⟩,
  ⟨some 9, .op (.mov (.t 94)), none, 6, [], [], false⟩,
  ⟨some 8, .op (.mov (.t 95)), none, 7, [], [], false⟩,
  ⟨some 7, .op (.mov (.t 96)), none, 8, [], [], false⟩,
  ⟨some 6, .op (.mov (.t 99)), none, 9, [], [], false⟩]))))))
  (.seqr [
  ⟨some 100, .op (.bin .add (.t 39) (.c (.int .i64 1))), none, 0, [], [], false⟩,
  ⟨some 39, .op (.mov (.t 100)), none, 1, [], [], false⟩])))
def l_sha_Block_1 : DCode := .seq (.seqr [
  ⟨some 111, .op (.bin .lss (.t 110) (.c (.int .i64 8))), none, 0, [], [], false⟩])
  (.seq (.cond (.t 111)
  (.skip)
  (.exit 2))
  (.seq (.block 3 (.seq (.seqr [
  ⟨some 112, .op (.mov (.t 110)), none, 0, [], [], false⟩,
  ⟨some 113, .op (.idxA 8 1 false (.t 109) (.t 110)), none, 1, [], [], false⟩,
  ⟨some 18, .op (.mov (.t 112)), none, 2, [], [], false⟩,
  ⟨some 19, .op (.mov (.t 113)), none, 3, [], [], false⟩])
  (.seqr [
  ⟨some 114, .op (.mov (.t 18)), none, 0, [], [], false⟩,
  ⟨some 115, .op (.iaddr (some 8) 1 (.t 2) (.t 114)), none, 1, [], [], false⟩,
  ⟨some 116, .op (.load 1 false (.t 115)), none, 2, [], [], false⟩,
  ⟨some 117, .op (.mov (.t 19)), none, 3, [], [], false⟩,
  ⟨some 118, .op (.bin .add (.t 116) (.t 117)), none, 4, [], [], false⟩,
  ⟨some 119, .op (.iaddr (some 8) 1 (.t 2) (.t 114)), none, 5, [], [], false⟩,
  ⟨none, .op (.store 1 (.t 119) (.t 118)), none, 6, [], [], false⟩])))
  (.seqr [
  ⟨some 120, .op (.bin .add (.t 110) (.c (.int .i64 1))), none, 0, [], [], false⟩,
  ⟨some 110, .op (.mov (.t 120)), none, 1, [], [], false⟩])))
def d_sha_Block : DFun := ⟨122, [true, true], [.cell 4 8 true],
 .seq (.seqr [
  ⟨some 2, .op (.box 1 (.t 0)), none, 0, [], [], false⟩,
  ⟨some 3, .op (.box 1 (.t 1)), none, 1, [], [], false⟩,
  ⟨some 4, .op (.alloc (.row (wordsV (List.replicate 8 0)) 1)), none, 2, [], [], false⟩])
  (.seq (.seqr [
  ⟨some 20, .op (.load 64 true (.t 3)), none, 0, [], [], false⟩,
  ⟨some 21, .call n_sha_words [(.t 20)], none, 1, [], [], false⟩,
  ⟨some 5, .op (.alloc (.row (wordsV (List.replicate 64 0)) 1)), none, 2, [], [], false⟩,
  ⟨none, .op (.store 64 (.t 5) (.t 21)), none, 3, [], [], false⟩])
  (.seq (.drwr [
  ⟨some 22, .op (.iaddr (some 8) 1 (.t 2) (.c (.int .i64 0))), none, 0, [], [], false⟩,
  ⟨some 23, .op (.load 1 false (.t 22)), none, 1, [], [], false⟩,
  ⟨some 24, .op (.iaddr (some 8) 1 (.t 2) (.c (.int .i64 1))), none, 2, [], [], false⟩,
  ⟨some 25, .op (.load 1 false (.t 24)), none, 3, [], [], false⟩,
  ⟨some 26, .op (.iaddr (some 8) 1 (.t 2) (.c (.int .i64 2))), none, 4, [], [], false⟩,
  ⟨some 27, .op (.load 1 false (.t 26)), none, 5, [], [], false⟩,
  ⟨some 28, .op (.iaddr (some 8) 1 (.t 2) (.c (.int .i64 3))), none, 6, [], [], false⟩,
  ⟨some 29, .op (.load 1 false (.t 28)), none, 7, [], [], false⟩,
  ⟨some 30, .op (.iaddr (some 8) 1 (.t 2) (.c (.int .i64 4))), none, 8, [], [], false⟩,
  ⟨some 31, .op (.load 1 false (.t 30)), none, 9, [], [], false⟩,
  ⟨some 32, .op (.iaddr (some 8) 1 (.t 2) (.c (.int .i64 5))), none, 10, [], [], false⟩,
  ⟨some 33, .op (.load 1 false (.t 32)), none, 11, [], [], false⟩,
  ⟨some 34, .op (.iaddr (some 8) 1 (.t 2) (.c (.int .i64 6))), none, 12, [], [], false⟩,
  ⟨some 35, .op (.load 1 false (.t 34)), none, 13, [], [], false⟩,
  ⟨some 36, .op (.iaddr (some 8) 1 (.t 2) (.c (.int .i64 7))), none, 14, [], [], false⟩,
  ⟨some 37, .op (.load 1 false (.t 36)), none, 15, [], [], false⟩,
  ⟨some 6, .op (.mov (.t 23)), none, 16, [], [], false⟩,
  ⟨some 7, .op (.mov (.t 25)), none, 17, [], [], false⟩,
  ⟨some 8, .op (.mov (.t 27)), none, 18, [], [], false⟩,
  ⟨some 9, .op (.mov (.t 29)), none, 19, [], [], false⟩,
  ⟨some 10, .op (.mov (.t 31)), none, 20, [], [], false⟩,
  ⟨some 11, .op (.mov (.t 33)), none, 21, [], [], false⟩,
  ⟨some 12, .op (.mov (.t 35)), none, 22, [], [], false⟩,
  ⟨some 13, .op (.mov (.t 37)), none, 23, [], [], false⟩])
  (.seq (.seq (.seqr [
  ⟨some 38, .op (.load 64 true (.c (.gp g_sha_constants 0))), none, 0, [], [], false⟩,
  ⟨some 39, .op (.mov (.c (.int .i64 0))), none, 1, [], [], false⟩])
  (.block 0 (.loop [2, 4, 5, 6, 7, 8, 9, 10, 11, 12, 13, 38, 39] l_sha_Block_0)))
  (.seq (.seq (.seqr [
  ⟨some 101, .op (.mov (.t 6)), none, 0, [], [], false⟩,
  ⟨some 102, .op (.mov (.t 7)), none, 1, [], [], false⟩,
  ⟨some 103, .op (.mov (.t 8)), none, 2, [], [], false⟩,
  ⟨some 104, .op (.mov (.t 9)), none, 3, [], [], false⟩,
  ⟨some 105, .op (.mov (.t 10)), none, 4, [], [], false⟩,
  ⟨some 106, .op (.mov (.t 11)), none, 5, [], [], false⟩,
  ⟨some 107, .op (.mov (.t 12)), none, 6, [], [], false⟩,
  ⟨some 108, .op (.mov (.t 13)), none, 7, [], [], false⟩,
  ⟨some 109, .op (.build (wordsV (List.replicate 8 0)) [(0, 1, (.t 101)), (1, 1, (.t 102)), (2, 1, (.t 103)), (3, 1, (.t 104)), (4, 1, (.t 105)), (5, 1, (.t 106)), (6, 1, (.t 107)), (7, 1, (.t 108))]), none, 8, [], [], false⟩,
  ⟨some 110, .op (.mov (.c (.int .i64 0))), none, 9, [], [], false⟩])
  (.block 2 (.loop [2, 4, 109, 110] l_sha_Block_1)))
  (.seq (.seqr [
  ⟨some 121, .op (.load 8 true (.t 2)), none, 0, [], [], false⟩,
  ⟨none, .op (.store 8 (.t 4) (.t 121)), none, 1, [], [], false⟩])
  (.ret))))))⟩
/-! seneschal/sha.words -/
def l_sha_words_0 : DCode := .seq (.seqr [
  ⟨some 11, .op (.bin .lss (.t 10) (.c (.int .i64 64))), none, 0, [], [], false⟩])
  (.seq (.cond (.t 11)
  (.skip)
  (.exit 0))
  (.seq (.block 1 (.seq (.seqr [
  ⟨some 12, .op (.mov (.t 10)), none, 0, [], [], false⟩,
  ⟨some 4, .op (.mov (.t 12)), none, 1, [], [], false⟩])
  (.seq (.seq (.seqr [
  ⟨some 13, .op (.mov (.t 4)), none, 0, [], [], false⟩,
  ⟨some 14, .op (.bin .lss (.t 13) (.c (.int .i64 16))), none, 1, [], [], false⟩])
  (.cond (.t 14)
  (.seq (.seqr [
   ⟨some 15, .op (.mov (.t 4)), none, 0, [], [], false⟩,
   ⟨some 16, .op (.bin .mul (.c (.int .i64 4)) (.t 15)), none, 1, [], [], false⟩,
   ⟨some 17, .op (.slcA 64 1 (.t 1) (some (.t 16)) none), none, 2, [], [], false⟩,
   ⟨some 5, .op (.mov (.t 17)), none, 3, [], [], false⟩])
   (.seq (.drwr [
   ⟨some 18, .op (.mov (.t 4)), none, 0, [], [], false⟩,
   ⟨some 19, .op (.mov (.t 5)), none, 1, [], [], false⟩,
   ⟨some 20, .op (.iaddr none 1 (.t 19) (.c (.int .i64 0))), none, 2, [], [], false⟩,
   ⟨some 21, .op (.load 1 false (.t 20)), none, 3, [], [], false⟩,
   ⟨some 22, .op (.conv .u32 (.t 21)), none, 4, [], [], false⟩,
   ⟨some 23, .op (.bin .shl (.t 22) (.c (.int .u64 24))), none, 5, [], [], false⟩,
   ⟨some 24, .op (.mov (.t 5)), none, 6, [], [], false⟩,
   ⟨some 25, .op (.iaddr none 1 (.t 24) (.c (.int .i64 1))), none, 7, [], [], false⟩,
   ⟨some 26, .op (.load 1 false (.t 25)), none, 8, [], [], false⟩,
   ⟨some 27, .op (.conv .u32 (.t 26)), none, 9, [], [], false⟩,
   ⟨some 28, .op (.bin .shl (.t 27) (.c (.int .u64 16))), none, 10, [], [], false⟩,
   ⟨some 29, .op (.bin .or (.t 23) (.t 28)), none, 11, [], [], false⟩,
   ⟨some 30, .op (.mov (.t 5)), none, 12, [], [], false⟩,
   ⟨some 31, .op (.iaddr none 1 (.t 30) (.c (.int .i64 2))), none, 13, [], [], false⟩,
   ⟨some 32, .op (.load 1 false (.t 31)), none, 14, [], [], false⟩,
   ⟨some 33, .op (.conv .u32 (.t 32)), none, 15, [], [], false⟩,
   ⟨some 34, .op (.bin .shl (.t 33) (.c (.int .u64 8))), none, 16, [], [], false⟩,
   ⟨some 35, .op (.bin .or (.t 29) (.t 34)), none, 17, [], [], false⟩,
   ⟨some 36, .op (.mov (.t 5)), none, 18, [], [], false⟩,
   ⟨some 37, .op (.iaddr none 1 (.t 36) (.c (.int .i64 3))), none, 19, [], [], false⟩,
   ⟨some 38, .op (.load 1 false (.t 37)), none, 20, [], [], false⟩,
   ⟨some 39, .op (.conv .u32 (.t 38)), none, 21, [], [], false⟩,
   ⟨some 40, .op (.bin .or (.t 35) (.t 39)), none, 22, [], [], false⟩,
   ⟨some 41, .op (.iaddr (some 64) 1 (.t 3) (.t 18)), none, 23, [], [], false⟩,
   ⟨none, .op (.store 1 (.t 41) (.t 40)), none, 24, [], [], false⟩])
   (.exit 1)))
  (.skip)))
  (.seq (.drwr [
  ⟨some 42, .op (.mov (.t 4)), none, 0, [], [], false⟩,
  ⟨some 43, .op (.bin .sub (.t 42) (.c (.int .i64 15))), none, 1, [], [], false⟩,
  ⟨some 44, .op (.iaddr (some 64) 1 (.t 3) (.t 43)), none, 2, [], [], false⟩,
  ⟨some 45, .op (.load 1 false (.t 44)), none, 3, [], [], false⟩,
  ⟨some 46, .op (.mov (.t 4)), none, 4, [], [], false⟩,
  ⟨some 47, .op (.bin .sub (.t 46) (.c (.int .i64 2))), none, 5, [], [], false⟩,
  ⟨some 48, .op (.iaddr (some 64) 1 (.t 3) (.t 47)), none, 6, [], [], false⟩,
  ⟨some 49, .op (.load 1 false (.t 48)), none, 7, [], [], false⟩,
  ⟨some 6, .op (.mov (.t 45)), none, 8, [], [], false⟩,
  ⟨some 7, .op (.mov (.t 49)), none, 9, [], [], false⟩])
  (.seq (.seqr [
  ⟨some 50, .op (.mov (.t 6)), none, 0, [], [], false⟩,
  ⟨some 51, .call n_sha_right [(.t 50), (.c (.int .i64 7))], none, 1, [], [], false⟩,
  ⟨some 52, .op (.mov (.t 6)), none, 2, [], [], false⟩,
  ⟨some 53, .call n_sha_right [(.t 52), (.c (.int .i64 18))], none, 3, [], [], false⟩,
  ⟨some 54, .op (.bin .xor (.t 51) (.t 53)), none, 4, [], [], false⟩,
  ⟨some 55, .op (.mov (.t 6)), none, 5, [], [], false⟩,
  ⟨some 56, .op (.bin .shr (.t 55) (.c (.int .u64 3))), none, 6, [], [], false⟩,
  ⟨some 57, .op (.bin .xor (.t 54) (.t 56)), none, 7, [], [], false⟩,
  ⟨some 8, .op (.mov (.t 57)), none, 8, [], [], false⟩])
  (.seq (.seqr [
  ⟨some 58, .op (.mov (.t 7)), none, 0, [], [], false⟩,
  ⟨some 59, .call n_sha_right [(.t 58), (.c (.int .i64 17))], none, 1, [], [], false⟩,
  ⟨some 60, .op (.mov (.t 7)), none, 2, [], [], false⟩,
  ⟨some 61, .call n_sha_right [(.t 60), (.c (.int .i64 19))], none, 3, [], [], false⟩,
  ⟨some 62, .op (.bin .xor (.t 59) (.t 61)), none, 4, [], [], false⟩,
  ⟨some 63, .op (.mov (.t 7)), none, 5, [], [], false⟩,
  ⟨some 64, .op (.bin .shr (.t 63) (.c (.int .u64 10))), none, 6, [], [], false⟩,
  ⟨some 65, .op (.bin .xor (.t 62) (.t 64)), none, 7, [], [], false⟩,
  ⟨some 9, .op (.mov (.t 65)), none, 8, [], [], false⟩])
  (.drwr [
  ⟨some 66, .op (.mov (.t 4)), none, 0, [], [], false⟩,
  ⟨some 67, .op (.mov (.t 4)), none, 1, [], [], false⟩,
  ⟨some 68, .op (.bin .sub (.t 67) (.c (.int .i64 16))), none, 2, [], [], false⟩,
  ⟨some 69, .op (.iaddr (some 64) 1 (.t 3) (.t 68)), none, 3, [], [], false⟩,
  ⟨some 70, .op (.load 1 false (.t 69)), none, 4, [], [], false⟩,
  ⟨some 71, .op (.mov (.t 8)), none, 5, [], [], false⟩,
  ⟨some 72, .op (.bin .add (.t 70) (.t 71)), none, 6, [], [], false⟩,
  ⟨some 73, .op (.mov (.t 4)), none, 7, [], [], false⟩,
  ⟨some 74, .op (.bin .sub (.t 73) (.c (.int .i64 7))), none, 8, [], [], false⟩,
  ⟨some 75, .op (.iaddr (some 64) 1 (.t 3) (.t 74)), none, 9, [], [], false⟩,
  ⟨some 76, .op (.load 1 false (.t 75)), none, 10, [], [], false⟩,
  ⟨some 77, .op (.bin .add (.t 72) (.t 76)), none, 11, [], [], false⟩,
  ⟨some 78, .op (.mov (.t 9)), none, 12, [], [], false⟩,
  ⟨some 79, .op (.bin .add (.t 77) (.t 78)), none, 13, [], [], false⟩,
  ⟨some 80, .op (.iaddr (some 64) 1 (.t 3) (.t 66)), none, 14, [], [], false⟩,
  ⟨none, .op (.store 1 (.t 80) (.t 79)), none, 15, [], [], false⟩])))))))
  (.seqr [
  ⟨some 81, .op (.bin .add (.t 10) (.c (.int .i64 1))), none, 0, [], [], false⟩,
  ⟨some 10, .op (.mov (.t 81)), none, 1, [], [], false⟩])))
def d_sha_words : DFun := ⟨83, [true], [.cell 2 64 true],
 .seq (.seqr [
  ⟨some 1, .op (.box 1 (.t 0)), none, 0, [], [], false⟩,
  ⟨some 2, .op (.alloc (.row (wordsV (List.replicate 64 0)) 1)), none, 1, [], [], false⟩])
  (.seq (.seqr [
  ⟨some 3, .op (.alloc (.row (wordsV (List.replicate 64 0)) 1)), none, 0, [], [], false⟩])
  (.seq (.seq (.seqr [
  ⟨some 10, .op (.mov (.c (.int .i64 0))), none, 0, [], [], false⟩])
  (.block 0 (.loop [1, 2, 3, 10] l_sha_words_0)))
  (.seq (.seqr [
  ⟨some 82, .op (.load 64 true (.t 3)), none, 0, [], [], false⟩,
  ⟨none, .op (.store 64 (.t 2) (.t 82)), none, 1, [], [], false⟩])
  (.ret))))⟩
/-! seneschal/sha.right -/
def d_sha_right : DFun := ⟨9, [true, true], [.tmp 4],
 .seq (.seqr [
  ⟨some 4, .op (.mov (.c (.int .u32 0))), none, 0, [], [], false⟩])
  (.seq (.seqr [
  ⟨some 5, .op (.mov (.t 0)), none, 0, [], [], false⟩,
  ⟨some 6, .op (.mov (.t 1)), none, 1, [], [], false⟩,
  ⟨some 7, .op (.un .neg (.t 6)), none, 2, [], [], false⟩,
  ⟨some 8, .call n_math_bits_RotateLeft32 [(.t 5), (.t 7)], none, 3, [], [], false⟩,
  ⟨some 4, .op (.mov (.t 8)), none, 4, [], [], false⟩])
  (.ret))⟩
/-! math/bits.RotateLeft32 -/
def d_math_bits_RotateLeft32 : DFun := ⟨17, [true, true], [.tmp 4],
 .seq (.seqr [
  ⟨some 4, .op (.mov (.c (.int .u32 0))), none, 0, [], [], false⟩])
  (.seq (.seqr [
  ⟨some 6, .op (.mov (.t 1)), none, 0, [], [], false⟩,
  ⟨some 7, .op (.conv .u64 (.t 6)), none, 1, [], [], false⟩,
  ⟨some 8, .op (.bin .and (.t 7) (.c (.int .u64 31))), none, 2, [], [], false⟩,
  ⟨some 5, .op (.mov (.t 8)), none, 3, [], [], false⟩])
  (.seq (.seqr [
  ⟨some 9, .op (.mov (.t 0)), none, 0, [], [], false⟩,
  ⟨some 10, .op (.mov (.t 5)), none, 1, [], [], false⟩,
  ⟨some 11, .op (.bin .shl (.t 9) (.t 10)), none, 2, [], [], false⟩,
  ⟨some 12, .op (.mov (.t 0)), none, 3, [], [], false⟩,
  ⟨some 13, .op (.mov (.t 5)), none, 4, [], [], false⟩,
  ⟨some 14, .op (.bin .sub (.c (.int .u64 32)) (.t 13)), none, 5, [], [], false⟩,
  ⟨some 15, .op (.bin .shr (.t 12) (.t 14)), none, 6, [], [], false⟩,
  ⟨some 16, .op (.bin .or (.t 11) (.t 15)), none, 7, [], [], false⟩,
  ⟨some 4, .op (.mov (.t 16)), none, 8, [], [], false⟩])
  (.ret)))⟩
/-! (seneschal/ticket.bad).Unwrap -/
def d_ticket_bad_Unwrap : DFun := ⟨4, [true], [.tmp 2],
 .seq (.seqr [
  ⟨some 1, .op (.box 0 (.t 0)), none, 0, [], [], false⟩,
  ⟨some 2, .op (.mov (.c .nili)), none, 1, [], [], false⟩])
  (.seq (.seqr [
  ⟨some 3, .op (.mki t_api_Errno (.c (.int .i64 200))), none, 0, [], [], false⟩,
  ⟨some 2, .op (.mov (.t 3)), none, 1, [], [], false⟩])
  (.ret))⟩
/-! (*errors.joinError).Unwrap -/
def d_errors_joinError_Unwrap : DFun := ⟨7, [false], [.tmp 2],
 .seq (.seqr [
  ⟨some 2, .op (.mov (.c .nils)), none, 0, [], [], false⟩])
  (.seq (.seqr [
  ⟨some 3, .op (.mov (.t 0)), none, 0, [], [], false⟩,
  ⟨some 4, .op (.nilchk (.t 3)), none, 1, [], [], false⟩,
  ⟨some 5, .op (.faddr 0 (.t 4)), none, 2, [], [], false⟩,
  ⟨some 6, .op (.load 1 false (.t 5)), none, 3, [], [], false⟩,
  ⟨some 2, .op (.mov (.t 6)), none, 4, [], [], false⟩])
  (.ret))⟩
end Go.Dm.T
set_option maxRecDepth 100000
namespace Go.Dm.T
def fnTree : FT :=
 .node 117
  (.node 58
   (.node 29
    (.node 14
     (.node 7
      (.node 3
       (.none)
       (.node 5
        (.none)
        (.node 6
         (.none)
         (.leaf n_law28_TgsRenews d_law28_TgsRenews))))
      (.node 10
       (.node 8
        (.none)
        (.node 9
         (.leaf n_law28_TgsVoid d_law28_TgsVoid)
         (.leaf n_law28_short d_law28_short)))
       (.node 12
        (.node 11
         (.leaf n_tgs_Ask d_tgs_Ask)
         (.none))
        (.node 13
         (.none)
         (.leaf n_tgs_Asked d_tgs_Asked)))))
     (.node 21
      (.node 17
       (.node 15
        (.leaf n_base_Bytes d_base_Bytes)
        (.node 16
         (.none)
         (.leaf n_tgs_Renewed d_tgs_Renewed)))
       (.node 19
        (.node 18
         (.none)
         (.leaf n_base_SameBytes d_base_SameBytes))
        (.node 20
         (.leaf n_law28_same d_law28_same)
         (.leaf n_law28_works d_law28_works))))
      (.node 25
       (.node 23
        (.node 22
         (.leaf n_law28_books d_law28_books)
         (.leaf n_tgs_Make d_tgs_Make))
        (.none))
       (.node 27
        (.node 26
         (.leaf n_tgs_Server_Grant d_tgs_Server_Grant)
         (.none))
        (.node 28
         (.leaf n_base_Among d_base_Among)
         (.leaf n_law28_key d_law28_key))))))
    (.node 43
     (.node 36
      (.node 32
       (.node 30
        (.leaf n_ticket_Bytes d_ticket_Bytes)
        (.node 31
         (.leaf n_ticket_Seal d_ticket_Seal)
         (.leaf n_tgs_Want_numbers d_tgs_Want_numbers)))
       (.node 34
        (.node 33
         (.leaf n_wire_Int d_wire_Int)
         (.leaf n_wire_Put d_wire_Put))
        (.none)))
      (.node 39
       (.node 37
        (.none)
        (.node 38
         (.none)
         (.leaf n_wire_Read d_wire_Read)))
       (.node 41
        (.node 40
         (.leaf n_wire_ReadInt d_wire_ReadInt)
         (.none))
        (.node 42
         (.none)
         (.leaf n_tgs_times d_tgs_times)))))
     (.node 50
      (.node 46
       (.node 44
        (.none)
        (.node 45
         (.leaf n_law28_granting d_law28_granting)
         (.leaf n_who_Make d_who_Make)))
       (.node 48
        (.node 47
         (.leaf n_ref19_Make d_ref19_Make)
         (.leaf n_who_Book_Add d_who_Book_Add))
        (.node 49
         (.leaf n_ref19_Book_Add d_ref19_Book_Add)
         (.leaf n_who_Book_Find d_who_Book_Find))))
      (.node 54
       (.node 52
        (.node 51
         (.leaf n_cache_MakeReplay d_cache_MakeReplay)
         (.none))
        (.node 53
         (.leaf n_tgs_opened d_tgs_opened)
         (.leaf n_errors_Is d_errors_Is)))
       (.node 56
        (.node 55
         (.leaf n_tgs_Server_judge d_tgs_Server_judge)
         (.none))
        (.none))))))
   (.node 87
    (.node 72
     (.node 65
      (.node 61
       (.none)
       (.node 63
        (.node 62
         (.leaf n_ticket_look d_ticket_look)
         (.leaf n_ticket_number d_ticket_number))
        (.node 64
         (.leaf n_ticket_value d_ticket_value)
         (.leaf n_ticket_right d_ticket_right))))
      (.node 68
       (.node 66
        (.leaf n_seal_Seal d_seal_Seal)
        (.node 67
         (.leaf n_wire_check d_wire_check)
         (.none)))
       (.node 70
        (.none)
        (.node 71
         (.none)
         (.leaf n_wire_cut d_wire_cut)))))
     (.node 79
      (.node 75
       (.node 73
        (.leaf n_who_Book_is d_who_Book_is)
        (.node 74
         (.leaf n_who_named d_who_named)
         (.leaf n_who_times d_who_times)))
       (.node 77
        (.node 76
         (.leaf n_who_Person_own d_who_Person_own)
         (.leaf n_ref19_Name d_ref19_Name))
        (.node 78
         (.leaf n_ref19_time d_ref19_time)
         (.leaf n_ref19_Book_Find d_ref19_Book_Find))))
      (.node 83
       (.node 81
        (.node 80
         (.leaf n_cache_right d_cache_right)
         (.leaf n_cache_times d_cache_times))
        (.none))
       (.node 85
        (.node 84
         (.leaf n_ticket_Read d_ticket_Read)
         (.leaf n_ticket_Open d_ticket_Open))
        (.node 86
         (.leaf n_errors_Join d_errors_Join)
         (.none))))))
    (.node 102
     (.node 94
      (.node 90
       (.node 88
        (.leaf n_errors_is d_errors_is)
        (.node 89
         (.leaf n_ticket_Judge d_ticket_Judge)
         (.leaf n_strconv_Itoa_89 d_strconv_Itoa_89)))
       (.node 92
        (.node 91
         (.none)
         (.leaf n_tgs_Server_fresh d_tgs_Server_fresh))
        (.none)))
      (.node 98
       (.node 96
        (.none)
        (.node 97
         (.none)
         (.leaf n_ticket_names d_ticket_names)))
       (.node 100
        (.node 99
         (.leaf n_ticket_times d_ticket_times)
         (.leaf n_seal_keys d_seal_keys))
        (.node 101
         (.leaf n_seal_pair_chain d_seal_pair_chain)
         (.leaf n_seal_swap d_seal_swap)))))
     (.node 109
      (.node 105
       (.node 103
        (.leaf n_seal_pair_tag d_seal_pair_tag)
        (.none))
       (.none))
      (.node 113
       (.node 111
        (.node 110
         (.leaf n_slices_ContainsFunc___int_int_ d_slices_ContainsFunc___int_int_)
         (.leaf n_cache_times_1 d_cache_times_1))
        (.node 112
         (.leaf n_ticket_fields d_ticket_fields)
         (.leaf n_ticket_numbers d_ticket_numbers)))
       (.node 115
        (.node 114
         (.leaf n_seal_Open d_seal_Open)
         (.leaf n_ticket_late d_ticket_late))
        (.node 116
         (.leaf n_strconv_Itoa_115 d_strconv_Itoa_115)
         (.leaf n_cache_Replay_is d_cache_Replay_is))))))))
  (.node 176
   (.node 146
    (.node 131
     (.node 124
      (.node 120
       (.node 118
        (.leaf n_cache_Replay_Has d_cache_Replay_Has)
        (.node 119
         (.leaf n_who_Book_Grant d_who_Book_Grant)
         (.leaf n_tgs_trim d_tgs_trim)))
       (.node 122
        (.none)
        (.node 123
         (.none)
         (.leaf n_mac_Expand d_mac_Expand))))
      (.node 127
       (.node 125
        (.leaf n_aes_Encrypt d_aes_Encrypt)
        (.node 126
         (.leaf n_seal_xor d_seal_xor)
         (.leaf n_mac_Sum d_mac_Sum)))
       (.none)))
     (.node 138
      (.node 134
       (.none)
       (.node 136
        (.none)
        (.node 137
         (.none)
         (.leaf n_slices_IndexFunc___int_int_ d_slices_IndexFunc___int_int_))))
      (.node 142
       (.node 140
        (.node 139
         (.leaf n_seal_look d_seal_look)
         (.none))
        (.node 141
         (.leaf n_seal_pair_whole d_seal_pair_whole)
         (.leaf n_aes_Decrypt d_aes_Decrypt)))
       (.node 144
        (.node 143
         (.leaf n_strconv_FormatInt d_strconv_FormatInt)
         (.leaf n_who_refused d_who_refused))
        (.node 145
         (.leaf n_aes_start d_aes_start)
         (.leaf n_aes_block_xor d_aes_block_xor))))))
    (.node 161
     (.node 153
      (.node 149
       (.node 147
        (.leaf n_aes_box d_aes_box)
        (.node 148
         (.leaf n_aes_block_turn d_aes_block_turn)
         (.leaf n_aes_block_mix d_aes_block_mix)))
       (.node 151
        (.node 150
         (.leaf n_sha_Parts d_sha_Parts)
         (.leaf n_mac_padded d_mac_padded))
        (.none)))
      (.node 157
       (.node 155
        (.none)
        (.node 156
         (.none)
         (.leaf n_mac_Same d_mac_Same)))
       (.node 159
        (.node 158
         (.leaf n_aes_back d_aes_back)
         (.leaf n_strconv_small d_strconv_small))
        (.none))))
     (.node 168
      (.node 164
       (.node 162
        (.none)
        (.node 163
         (.leaf n_aes_Keys d_aes_Keys)
         (.leaf n_aes_Times d_aes_Times)))
       (.node 166
        (.node 165
         (.leaf n_sha_Sum d_sha_Sum)
         (.none))
        (.none)))
      (.node 172
       (.none)
       (.node 174
        (.node 173
         (.none)
         (.leaf n_aes_twice d_aes_twice))
        (.node 175
         (.leaf n_sha_first d_sha_first)
         (.leaf n_sha_Pad d_sha_Pad)))))))
   (.node 205
    (.node 190
     (.node 183
      (.node 179
       (.node 177
        (.leaf n_sha_Block d_sha_Block)
        (.none))
       (.none))
      (.node 186
       (.node 184
        (.leaf n_sha_words d_sha_words)
        (.node 185
         (.leaf n_sha_right d_sha_right)
         (.leaf n_math_bits_RotateLeft32 d_math_bits_RotateLeft32)))
       (.none)))
     (.none))
    (.node 220
     (.node 212
      (.node 208
       (.node 206
        (.none)
        (.node 207
         (.leaf n_ticket_bad_Unwrap d_ticket_bad_Unwrap)
         (.none)))
       (.node 210
        (.node 209
         (.none)
         (.leaf n_errors_joinError_Unwrap d_errors_joinError_Unwrap))
        (.none)))
      (.none))
     (.none))))
def fnT (f : Nat) : Option DFun := fnTree.get f
theorem fn_law28_TgsRenews : fnT n_law28_TgsRenews = some d_law28_TgsRenews := rfl
theorem fn_law28_TgsVoid : fnT n_law28_TgsVoid = some d_law28_TgsVoid := rfl
theorem fn_law28_short : fnT n_law28_short = some d_law28_short := rfl
theorem fn_tgs_Ask : fnT n_tgs_Ask = some d_tgs_Ask := rfl
theorem fn_tgs_Asked : fnT n_tgs_Asked = some d_tgs_Asked := rfl
theorem fn_base_Bytes : fnT n_base_Bytes = some d_base_Bytes := rfl
theorem fn_tgs_Renewed : fnT n_tgs_Renewed = some d_tgs_Renewed := rfl
theorem fn_base_SameBytes : fnT n_base_SameBytes = some d_base_SameBytes := rfl
theorem fn_law28_same : fnT n_law28_same = some d_law28_same := rfl
theorem fn_law28_works : fnT n_law28_works = some d_law28_works := rfl
theorem fn_law28_books : fnT n_law28_books = some d_law28_books := rfl
theorem fn_tgs_Make : fnT n_tgs_Make = some d_tgs_Make := rfl
theorem fn_tgs_Server_Grant : fnT n_tgs_Server_Grant = some d_tgs_Server_Grant := rfl
theorem fn_base_Among : fnT n_base_Among = some d_base_Among := rfl
theorem fn_law28_key : fnT n_law28_key = some d_law28_key := rfl
theorem fn_ticket_Bytes : fnT n_ticket_Bytes = some d_ticket_Bytes := rfl
theorem fn_ticket_Seal : fnT n_ticket_Seal = some d_ticket_Seal := rfl
theorem fn_tgs_Want_numbers : fnT n_tgs_Want_numbers = some d_tgs_Want_numbers := rfl
theorem fn_wire_Int : fnT n_wire_Int = some d_wire_Int := rfl
theorem fn_wire_Put : fnT n_wire_Put = some d_wire_Put := rfl
theorem fn_wire_Read : fnT n_wire_Read = some d_wire_Read := rfl
theorem fn_wire_ReadInt : fnT n_wire_ReadInt = some d_wire_ReadInt := rfl
theorem fn_tgs_times : fnT n_tgs_times = some d_tgs_times := rfl
theorem fn_law28_granting : fnT n_law28_granting = some d_law28_granting := rfl
theorem fn_who_Make : fnT n_who_Make = some d_who_Make := rfl
theorem fn_ref19_Make : fnT n_ref19_Make = some d_ref19_Make := rfl
theorem fn_who_Book_Add : fnT n_who_Book_Add = some d_who_Book_Add := rfl
theorem fn_ref19_Book_Add : fnT n_ref19_Book_Add = some d_ref19_Book_Add := rfl
theorem fn_who_Book_Find : fnT n_who_Book_Find = some d_who_Book_Find := rfl
theorem fn_cache_MakeReplay : fnT n_cache_MakeReplay = some d_cache_MakeReplay := rfl
theorem fn_tgs_opened : fnT n_tgs_opened = some d_tgs_opened := rfl
theorem fn_errors_Is : fnT n_errors_Is = some d_errors_Is := rfl
theorem fn_tgs_Server_judge : fnT n_tgs_Server_judge = some d_tgs_Server_judge := rfl
theorem fn_ticket_look : fnT n_ticket_look = some d_ticket_look := rfl
theorem fn_ticket_number : fnT n_ticket_number = some d_ticket_number := rfl
theorem fn_ticket_value : fnT n_ticket_value = some d_ticket_value := rfl
theorem fn_ticket_right : fnT n_ticket_right = some d_ticket_right := rfl
theorem fn_seal_Seal : fnT n_seal_Seal = some d_seal_Seal := rfl
theorem fn_wire_check : fnT n_wire_check = some d_wire_check := rfl
theorem fn_wire_cut : fnT n_wire_cut = some d_wire_cut := rfl
theorem fn_who_Book_is : fnT n_who_Book_is = some d_who_Book_is := rfl
theorem fn_who_named : fnT n_who_named = some d_who_named := rfl
theorem fn_who_times : fnT n_who_times = some d_who_times := rfl
theorem fn_who_Person_own : fnT n_who_Person_own = some d_who_Person_own := rfl
theorem fn_ref19_Name : fnT n_ref19_Name = some d_ref19_Name := rfl
theorem fn_ref19_time : fnT n_ref19_time = some d_ref19_time := rfl
theorem fn_ref19_Book_Find : fnT n_ref19_Book_Find = some d_ref19_Book_Find := rfl
theorem fn_cache_right : fnT n_cache_right = some d_cache_right := rfl
theorem fn_cache_times : fnT n_cache_times = some d_cache_times := rfl
theorem fn_ticket_Read : fnT n_ticket_Read = some d_ticket_Read := rfl
theorem fn_ticket_Open : fnT n_ticket_Open = some d_ticket_Open := rfl
theorem fn_errors_Join : fnT n_errors_Join = some d_errors_Join := rfl
theorem fn_errors_is : fnT n_errors_is = some d_errors_is := rfl
theorem fn_ticket_Judge : fnT n_ticket_Judge = some d_ticket_Judge := rfl
theorem fn_strconv_Itoa_89 : fnT n_strconv_Itoa_89 = some d_strconv_Itoa_89 := rfl
theorem fn_tgs_Server_fresh : fnT n_tgs_Server_fresh = some d_tgs_Server_fresh := rfl
theorem fn_ticket_names : fnT n_ticket_names = some d_ticket_names := rfl
theorem fn_ticket_times : fnT n_ticket_times = some d_ticket_times := rfl
theorem fn_seal_keys : fnT n_seal_keys = some d_seal_keys := rfl
theorem fn_seal_pair_chain : fnT n_seal_pair_chain = some d_seal_pair_chain := rfl
theorem fn_seal_swap : fnT n_seal_swap = some d_seal_swap := rfl
theorem fn_seal_pair_tag : fnT n_seal_pair_tag = some d_seal_pair_tag := rfl
theorem fn_slices_ContainsFunc___int_int_ : fnT n_slices_ContainsFunc___int_int_ = some d_slices_ContainsFunc___int_int_ := rfl
theorem fn_cache_times_1 : fnT n_cache_times_1 = some d_cache_times_1 := rfl
theorem fn_ticket_fields : fnT n_ticket_fields = some d_ticket_fields := rfl
theorem fn_ticket_numbers : fnT n_ticket_numbers = some d_ticket_numbers := rfl
theorem fn_seal_Open : fnT n_seal_Open = some d_seal_Open := rfl
theorem fn_ticket_late : fnT n_ticket_late = some d_ticket_late := rfl
theorem fn_strconv_Itoa_115 : fnT n_strconv_Itoa_115 = some d_strconv_Itoa_115 := rfl
theorem fn_cache_Replay_is : fnT n_cache_Replay_is = some d_cache_Replay_is := rfl
theorem fn_cache_Replay_Has : fnT n_cache_Replay_Has = some d_cache_Replay_Has := rfl
theorem fn_who_Book_Grant : fnT n_who_Book_Grant = some d_who_Book_Grant := rfl
theorem fn_tgs_trim : fnT n_tgs_trim = some d_tgs_trim := rfl
theorem fn_mac_Expand : fnT n_mac_Expand = some d_mac_Expand := rfl
theorem fn_aes_Encrypt : fnT n_aes_Encrypt = some d_aes_Encrypt := rfl
theorem fn_seal_xor : fnT n_seal_xor = some d_seal_xor := rfl
theorem fn_mac_Sum : fnT n_mac_Sum = some d_mac_Sum := rfl
theorem fn_slices_IndexFunc___int_int_ : fnT n_slices_IndexFunc___int_int_ = some d_slices_IndexFunc___int_int_ := rfl
theorem fn_seal_look : fnT n_seal_look = some d_seal_look := rfl
theorem fn_seal_pair_whole : fnT n_seal_pair_whole = some d_seal_pair_whole := rfl
theorem fn_aes_Decrypt : fnT n_aes_Decrypt = some d_aes_Decrypt := rfl
theorem fn_strconv_FormatInt : fnT n_strconv_FormatInt = some d_strconv_FormatInt := rfl
theorem fn_who_refused : fnT n_who_refused = some d_who_refused := rfl
theorem fn_aes_start : fnT n_aes_start = some d_aes_start := rfl
theorem fn_aes_block_xor : fnT n_aes_block_xor = some d_aes_block_xor := rfl
theorem fn_aes_box : fnT n_aes_box = some d_aes_box := rfl
theorem fn_aes_block_turn : fnT n_aes_block_turn = some d_aes_block_turn := rfl
theorem fn_aes_block_mix : fnT n_aes_block_mix = some d_aes_block_mix := rfl
theorem fn_sha_Parts : fnT n_sha_Parts = some d_sha_Parts := rfl
theorem fn_mac_padded : fnT n_mac_padded = some d_mac_padded := rfl
theorem fn_mac_Same : fnT n_mac_Same = some d_mac_Same := rfl
theorem fn_aes_back : fnT n_aes_back = some d_aes_back := rfl
theorem fn_strconv_small : fnT n_strconv_small = some d_strconv_small := rfl
theorem fn_aes_Keys : fnT n_aes_Keys = some d_aes_Keys := rfl
theorem fn_aes_Times : fnT n_aes_Times = some d_aes_Times := rfl
theorem fn_sha_Sum : fnT n_sha_Sum = some d_sha_Sum := rfl
theorem fn_aes_twice : fnT n_aes_twice = some d_aes_twice := rfl
theorem fn_sha_first : fnT n_sha_first = some d_sha_first := rfl
theorem fn_sha_Pad : fnT n_sha_Pad = some d_sha_Pad := rfl
theorem fn_sha_Block : fnT n_sha_Block = some d_sha_Block := rfl
theorem fn_sha_words : fnT n_sha_words = some d_sha_words := rfl
theorem fn_sha_right : fnT n_sha_right = some d_sha_right := rfl
theorem fn_math_bits_RotateLeft32 : fnT n_math_bits_RotateLeft32 = some d_math_bits_RotateLeft32 := rfl
theorem fn_ticket_bad_Unwrap : fnT n_ticket_bad_Unwrap = some d_ticket_bad_Unwrap := rfl
theorem fn_errors_joinError_Unwrap : fnT n_errors_joinError_Unwrap = some d_errors_joinError_Unwrap := rfl
end Go.Dm.T
