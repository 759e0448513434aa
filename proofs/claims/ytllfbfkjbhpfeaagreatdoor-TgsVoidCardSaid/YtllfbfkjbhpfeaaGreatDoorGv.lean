/- TgsVoid: for every input the law returns true, and its arguments read as they did (the card's tie: the listed package-level variables as the program's text lays them). -/
import Derived.Test.YtllfbfkjbhpfeaaGreatDoorWa
import Derived.Test.YtllfbfkjbhpfeaaGreatDoorWb
import Derived.Test.YtllfbfkjbhpfeaaGreatDoorWc
import Derived.Test.YtllfbfkjbhpfeaaGreatDoorWd
import Derived.Test.YtllfbfkjbhpfeaaGreatDoorWe
import Derived.Test.YtllfbfkjbhpfeaaGreatDoorWf
import Derived.Test.YtllfbfkjbhpfeaaGreatDoorWg
import Derived.Test.YtllfbfkjbhpfeaaGreatDoorTk
import Derived.Test.YtllfbfkjbhpfeaaGreatDoorCards
import Derived.Test.YtllfbfkjbhpfeaaGreatDoorTie
import Derived.WalkKit
import Derived.ProofKit
import Derived.OpenShut
import Derived.LaidHandle
import Derived.Stop.LaidErr
import Derived.Deep.DeepHandedRow
import Derived.Lib.LaidTab
set_option linter.unusedSimpArgs false
set_option linter.unusedVariables false
set_option linter.unusedSectionVars false
set_option linter.unusedSimpArgs false
set_option linter.unusedVariables false
set_option linter.unusedSectionVars false
namespace Go.Dm.T
open Go.Dm

theorem x_mE1 : callN DT 35 mE1.f mE1.args [] = some (mE1.r, mE1.os) := callH_le (hotM_ok hotT_ok (by simp)) 30 _ _ _ _ e_mE1
theorem x_mE2 : callN DT 35 mE2.f mE2.args [] = some (mE2.r, mE2.os) := callH_le (hotM_ok hotT_ok (by simp)) 30 _ _ _ _ e_mE2
theorem hotE : HotOk (hotM [mE1, mE2]) DT 35 := hotM_ok (hotOk_le hotT_ok (by omega)) fun m hm => by
  simp only [List.mem_cons, List.not_mem_nil, or_false] at hm
  rcases hm with rfl | rfl
  · exact x_mE1
  · exact x_mE2
theorem x_mAsk : callN DT 65 mAsk.f mAsk.args [] = some (mAsk.r, mAsk.os) := callH_le hotE 30 _ _ _ _ e_mAsk
theorem x_mOpen : callN DT 65 mOpen.f mOpen.args [] = some (mOpen.r, mOpen.os) := callH_le hotE 30 _ _ _ _ e_mOpen
theorem hotO : HotOk (hotM [mOpen]) DT 65 := hotM_ok (hotOk_le hotT_ok (by omega)) fun m hm => by
  simp only [List.mem_cons, List.not_mem_nil, or_false] at hm
  rcases hm with rfl
  exact x_mOpen
theorem x_mOpened : callN DT 95 mOpened.f mOpened.args [] = some (mOpened.r, mOpened.os) := callH_le hotO 30 _ _ _ _ e_mOpened
theorem hotW : HotOk (hotM [mAsk, mOpened]) DT 95 := hotM_ok (hotOk_le hotT_ok (by omega)) fun m hm => by
  simp only [List.mem_cons, List.not_mem_nil, or_false] at hm
  rcases hm with rfl | rfl
  · exact callN_le DT (by omega) _ _ _ _ x_mAsk
  · exact x_mOpened
theorem c_works : callN DT 125 n_law28_works [] [] = some (.bool true, []) := callH_le hotW 30 _ _ _ _ e_works
def keyC : List UInt8 := [99, 5, 10, 15, 20, 25, 30, 35, 40, 45, 50, 55, 60, 65, 70, 75]
theorem c_key0 : callN DT 3 n_law28_key [.str [99]] [] = some (.hs 0 0 16, [(0, .row (bytesV keyC) 1)]) := by kernel_rfl
theorem c_key : callN DT 125 n_law28_key [.str [99]] [] = some (.hs 0 0 16, [(0, .row (bytesV keyC) 1)]) := callN_le DT (by omega) _ _ _ _ c_key0
theorem c_make0 : callN DT 5 n_tgs_Make [.nilp, .int .i64 1, .int .i64 1] [] = some (.tup [.nilp, .int .i64 1], []) := by kernel_rfl
theorem c_make : callN DT 125 n_tgs_Make [.nilp, .int .i64 1, .int .i64 1] [] = some (.tup [.nilp, .int .i64 1], []) := callN_le DT (by omega) _ _ _ _ c_make0
theorem q1 : eqV 1 false [] .nilp .nilp = some true := rfl
theorem q2 (h i f : Nat) : eqV 1 false [] (.hp h i f) .nilp = some false := rfl
def noTicket : V := .agg [.str [], .str [], .nils, .int .i64 0, .int .i64 0, .int .i64 0, .int .i64 0]
def noAuth : V := .agg [.str [], .int .i64 0, .int .i64 0]
theorem c_Grant_nil (n : Nat) (v k : V) (b : List UInt8) (now : Int) (hv : IsB v b) :
    callN DT (n + 1) n_tgs_Server_Grant [.nilp, v, k, .int .i64 now] [] = some (.tup [noTicket, noAuth, .int .i64 0, .int .i64 1], []) := by
  refine call_fn (DT_fn _ _ fn_tgs_Server_Grant) (run_ret (s := ?ss) ?hh ?kk)
  case hh =>
    simp (maxSteps := 10000000) (disch := first | decide | omega | assumption | rfl | (simp only [List.length_set, List.length_append, List.length_take, List.length_drop, List.length_cons, List.length_nil]; omega)) only [xRun, xRun0, xV, xOps, xOps0, decide_true, decide_false, wordsV_take, bytesV_take, wordsV_drop, bytesV_drop, cellsL_words, cellsL_bytes, List.length_replicate, List.take_of_length_le, false_and, and_false, Nat.le_refl,  ncast0, ncast1, Int.cast_ofNat_Int, stepC, step, evL, List.getD_cons_zero, List.getD_cons_succ, List.map_cons, List.map_nil, putE, List.set_cons_zero, List.set_cons_succ, effO, updsO, updO, putO, delO, getO, topK, visS_nil, confS_nil, effKeys, List.lookup_nil, xGo, xWant, wantB, Eff.val, Option.map_some, Option.map_none, Option.bind_some, List.length_cons, List.length_nil, tups, undefs, List.cons_append, List.nil_append, List.append_nil, Nat.reduceAdd, Nat.reduceSub, Nat.reduceMul, Nat.zero_add, Nat.add_zero, Nat.reduceEqDiff, Nat.reduceLT, Nat.reduceLeDiff, Nat.reduceMod, Nat.reduceDiv, Nat.reduceBEq, Int.reduceLE, Int.reduceEq, Int.reduceLT, Int.reduceToNat, Int.reduceAdd, Int.reduceSub, Int.reduceNeg, reduceIte, reduceCtorEq, if_true, if_false, and_self, and_true, true_and, or_true, true_or, not_true, not_false_eq_true, Bool.false_eq_true, Bool.true_beq, Bool.false_beq, Bool.not_true, Bool.not_false, Bool.and_true, Bool.true_and, Bool.or_true, Bool.true_or, Bool.or_false, Bool.false_or, Bool.or_self, Bool.false_and, Bool.and_false, Bool.and_self, bne_self_eq_false, beq_self_eq_true, Int.natCast_nonneg, Int.toNat_natCast, cutAs, shapeAs, xDeep, xDeep0, kills, doCall, lendA, pack, packR, hands, handsL, addN, hasAll, packO, posN, ren, renL, renO, backN, backO, clean, clean.cleanL, cleanO, canon_eq, canonF, putL, resV, one1, List.isEmpty_nil, List.isEmpty_cons, List.any_nil, List.any_cons, List.all_nil, List.all_cons, List.contains_nil, List.contains_cons, List.range, List.range.loop, Option.getD_some, Option.isSome_some, List.getElem?_cons_zero, List.getElem?_cons_succ, List.getElem?_nil, List.drop_zero, List.drop_succ_cons, List.drop_nil, bfs, xUn, bound, natOf, rowOf, chunk, envOf, List.foldl_cons, List.foldl_nil, wrap_succ, Nat.mul_one, Nat.one_mul, Int.reduceMul, ne_eq, Option.getD_none, bytesV_set, wordsV_set, bytesV_length, wordsV_length, handsL_bytes, renL_bytes, deepW_bytes, handsL_words, renL_words, deepW_words, xCmp, xI64, xStr, u8_ofInt_toNat, u32_ofInt_toNat, d_tgs_Server_Grant, isB_len hv, isB_view hv, isB_deep hv, isB_hands hv, isB_ren hv, isB_width hv, isB_cells hv, isB_sto hv, isB_one hv, isB_at hv, q1, q2, splices, spliceL, List.take_zero, List.take_nil, Option.map_some]
    all_goals with_reducible rfl
  case kk =>
    simp (maxSteps := 10000000) (disch := first | decide | omega | assumption | rfl | (simp only [List.length_set, List.length_append, List.length_take, List.length_drop, List.length_cons, List.length_nil]; omega)) only [xRun, xRun0, xV, xOps, xOps0, decide_true, decide_false, wordsV_take, bytesV_take, wordsV_drop, bytesV_drop, cellsL_words, cellsL_bytes, List.length_replicate, List.take_of_length_le, false_and, and_false, Nat.le_refl,  ncast0, ncast1, Int.cast_ofNat_Int, stepC, step, evL, List.getD_cons_zero, List.getD_cons_succ, List.map_cons, List.map_nil, putE, List.set_cons_zero, List.set_cons_succ, effO, updsO, updO, putO, delO, getO, topK, visS_nil, confS_nil, effKeys, List.lookup_nil, xGo, xWant, wantB, Eff.val, Option.map_some, Option.map_none, Option.bind_some, List.length_cons, List.length_nil, tups, undefs, List.cons_append, List.nil_append, List.append_nil, Nat.reduceAdd, Nat.reduceSub, Nat.reduceMul, Nat.zero_add, Nat.add_zero, Nat.reduceEqDiff, Nat.reduceLT, Nat.reduceLeDiff, Nat.reduceMod, Nat.reduceDiv, Nat.reduceBEq, Int.reduceLE, Int.reduceEq, Int.reduceLT, Int.reduceToNat, Int.reduceAdd, Int.reduceSub, Int.reduceNeg, reduceIte, reduceCtorEq, if_true, if_false, and_self, and_true, true_and, or_true, true_or, not_true, not_false_eq_true, Bool.false_eq_true, Bool.true_beq, Bool.false_beq, Bool.not_true, Bool.not_false, Bool.and_true, Bool.true_and, Bool.or_true, Bool.true_or, Bool.or_false, Bool.false_or, Bool.or_self, Bool.false_and, Bool.and_false, Bool.and_self, bne_self_eq_false, beq_self_eq_true, Int.natCast_nonneg, Int.toNat_natCast, cutAs, shapeAs, xDeep, xDeep0, kills, doCall, lendA, pack, packR, hands, handsL, addN, hasAll, packO, posN, ren, renL, renO, backN, backO, clean, clean.cleanL, cleanO, canon_eq, canonF, putL, resV, one1, List.isEmpty_nil, List.isEmpty_cons, List.any_nil, List.any_cons, List.all_nil, List.all_cons, List.contains_nil, List.contains_cons, List.range, List.range.loop, Option.getD_some, Option.isSome_some, List.getElem?_cons_zero, List.getElem?_cons_succ, List.getElem?_nil, List.drop_zero, List.drop_succ_cons, List.drop_nil, bfs, xUn, bound, natOf, rowOf, chunk, envOf, List.foldl_cons, List.foldl_nil, wrap_succ, Nat.mul_one, Nat.one_mul, Int.reduceMul, ne_eq, Option.getD_none, bytesV_set, wordsV_set, bytesV_length, wordsV_length, handsL_bytes, renL_bytes, deepW_bytes, handsL_words, renL_words, deepW_words, xCmp, xI64, xStr, u8_ofInt_toNat, u32_ofInt_toNat, d_tgs_Server_Grant, noTicket, noAuth]
theorem c_Grant_zero (n : Nat) (v k : V) (b : List UInt8) (now : Int) (hv : IsB v b) :
    callN DT (n + 1) n_tgs_Server_Grant [.hp 0 0 0, v, k, .int .i64 now] [(0, .box [.nilp, .nilp, .int .i64 0])] = some (.tup [noTicket, noAuth, .int .i64 0, .int .i64 1], [(0, .box [.nilp, .nilp, .int .i64 0])]) := by
  refine call_fn (DT_fn _ _ fn_tgs_Server_Grant) (run_ret (s := ?ss) ?hh ?kk)
  case hh =>
    simp (maxSteps := 10000000) (disch := first | decide | omega | assumption | rfl | (simp only [List.length_set, List.length_append, List.length_take, List.length_drop, List.length_cons, List.length_nil]; omega)) only [xRun, xRun0, xV, xOps, xOps0, decide_true, decide_false, wordsV_take, bytesV_take, wordsV_drop, bytesV_drop, cellsL_words, cellsL_bytes, List.length_replicate, List.take_of_length_le, false_and, and_false, Nat.le_refl,  ncast0, ncast1, Int.cast_ofNat_Int, stepC, step, evL, List.getD_cons_zero, List.getD_cons_succ, List.map_cons, List.map_nil, putE, List.set_cons_zero, List.set_cons_succ, effO, updsO, updO, putO, delO, getO, topK, visS_nil, confS_nil, effKeys, List.lookup_nil, xGo, xWant, wantB, Eff.val, Option.map_some, Option.map_none, Option.bind_some, List.length_cons, List.length_nil, tups, undefs, List.cons_append, List.nil_append, List.append_nil, Nat.reduceAdd, Nat.reduceSub, Nat.reduceMul, Nat.zero_add, Nat.add_zero, Nat.reduceEqDiff, Nat.reduceLT, Nat.reduceLeDiff, Nat.reduceMod, Nat.reduceDiv, Nat.reduceBEq, Int.reduceLE, Int.reduceEq, Int.reduceLT, Int.reduceToNat, Int.reduceAdd, Int.reduceSub, Int.reduceNeg, reduceIte, reduceCtorEq, if_true, if_false, and_self, and_true, true_and, or_true, true_or, not_true, not_false_eq_true, Bool.false_eq_true, Bool.true_beq, Bool.false_beq, Bool.not_true, Bool.not_false, Bool.and_true, Bool.true_and, Bool.or_true, Bool.true_or, Bool.or_false, Bool.false_or, Bool.or_self, Bool.false_and, Bool.and_false, Bool.and_self, bne_self_eq_false, beq_self_eq_true, Int.natCast_nonneg, Int.toNat_natCast, cutAs, shapeAs, xDeep, xDeep0, kills, doCall, lendA, pack, packR, hands, handsL, addN, hasAll, packO, posN, ren, renL, renO, backN, backO, clean, clean.cleanL, cleanO, canon_eq, canonF, putL, resV, one1, List.isEmpty_nil, List.isEmpty_cons, List.any_nil, List.any_cons, List.all_nil, List.all_cons, List.contains_nil, List.contains_cons, List.range, List.range.loop, Option.getD_some, Option.isSome_some, List.getElem?_cons_zero, List.getElem?_cons_succ, List.getElem?_nil, List.drop_zero, List.drop_succ_cons, List.drop_nil, bfs, xUn, bound, natOf, rowOf, chunk, envOf, List.foldl_cons, List.foldl_nil, wrap_succ, Nat.mul_one, Nat.one_mul, Int.reduceMul, ne_eq, Option.getD_none, bytesV_set, wordsV_set, bytesV_length, wordsV_length, handsL_bytes, renL_bytes, deepW_bytes, handsL_words, renL_words, deepW_words, xCmp, xI64, xStr, u8_ofInt_toNat, u32_ofInt_toNat, d_tgs_Server_Grant, isB_len hv, isB_view hv, isB_deep hv, isB_hands hv, isB_ren hv, isB_width hv, isB_cells hv, isB_sto hv, isB_one hv, isB_at hv, faddrV, q1, q2, splices, spliceL, List.take_zero, List.take_nil, Option.map_some]
    all_goals with_reducible rfl
  case kk =>
    simp (maxSteps := 10000000) (disch := first | decide | omega | assumption | rfl | (simp only [List.length_set, List.length_append, List.length_take, List.length_drop, List.length_cons, List.length_nil]; omega)) only [xRun, xRun0, xV, xOps, xOps0, decide_true, decide_false, wordsV_take, bytesV_take, wordsV_drop, bytesV_drop, cellsL_words, cellsL_bytes, List.length_replicate, List.take_of_length_le, false_and, and_false, Nat.le_refl,  ncast0, ncast1, Int.cast_ofNat_Int, stepC, step, evL, List.getD_cons_zero, List.getD_cons_succ, List.map_cons, List.map_nil, putE, List.set_cons_zero, List.set_cons_succ, effO, updsO, updO, putO, delO, getO, topK, visS_nil, confS_nil, effKeys, List.lookup_nil, xGo, xWant, wantB, Eff.val, Option.map_some, Option.map_none, Option.bind_some, List.length_cons, List.length_nil, tups, undefs, List.cons_append, List.nil_append, List.append_nil, Nat.reduceAdd, Nat.reduceSub, Nat.reduceMul, Nat.zero_add, Nat.add_zero, Nat.reduceEqDiff, Nat.reduceLT, Nat.reduceLeDiff, Nat.reduceMod, Nat.reduceDiv, Nat.reduceBEq, Int.reduceLE, Int.reduceEq, Int.reduceLT, Int.reduceToNat, Int.reduceAdd, Int.reduceSub, Int.reduceNeg, reduceIte, reduceCtorEq, if_true, if_false, and_self, and_true, true_and, or_true, true_or, not_true, not_false_eq_true, Bool.false_eq_true, Bool.true_beq, Bool.false_beq, Bool.not_true, Bool.not_false, Bool.and_true, Bool.true_and, Bool.or_true, Bool.true_or, Bool.or_false, Bool.false_or, Bool.or_self, Bool.false_and, Bool.and_false, Bool.and_self, bne_self_eq_false, beq_self_eq_true, Int.natCast_nonneg, Int.toNat_natCast, cutAs, shapeAs, xDeep, xDeep0, kills, doCall, lendA, pack, packR, hands, handsL, addN, hasAll, packO, posN, ren, renL, renO, backN, backO, clean, clean.cleanL, cleanO, canon_eq, canonF, putL, resV, one1, List.isEmpty_nil, List.isEmpty_cons, List.any_nil, List.any_cons, List.all_nil, List.all_cons, List.contains_nil, List.contains_cons, List.range, List.range.loop, Option.getD_some, Option.isSome_some, List.getElem?_cons_zero, List.getElem?_cons_succ, List.getElem?_nil, List.drop_zero, List.drop_succ_cons, List.drop_nil, bfs, xUn, bound, natOf, rowOf, chunk, envOf, List.foldl_cons, List.foldl_nil, wrap_succ, Nat.mul_one, Nat.one_mul, Int.reduceMul, ne_eq, Option.getD_none, bytesV_set, wordsV_set, bytesV_length, wordsV_length, handsL_bytes, renL_bytes, deepW_bytes, handsL_words, renL_words, deepW_words, xCmp, xI64, xStr, u8_ofInt_toNat, u32_ofInt_toNat, d_tgs_Server_Grant, noTicket, noAuth]
theorem c_TgsVoid (v : V) (b : List UInt8) (now : Int) (hv : IsB v b) : callN DT 126 n_law28_TgsVoid [v, .int .i64 now] [] = some (.bool true, []) := by
  have l1 : DT.lend n_law28_key = [true] := lend_of DT_fn fn_law28_key
  have l2 : DT.lend n_tgs_Server_Grant = [false, true, true, true] := lend_of DT_fn fn_tgs_Server_Grant
  have l3 : DT.lend n_tgs_Make = [false, true, true] := lend_of DT_fn fn_tgs_Make
  have l4 : DT.lend n_law28_works = [] := lend_of DT_fn fn_law28_works
  have g1 := c_Grant_nil 124 v (.sl (bytesV keyC) 1) b now hv
  have g2 := c_Grant_zero 124 v (.sl (bytesV keyC) 1) b now hv
  have hk : keyC.length = 16 := rfl
  have e1 : ((1 : Int) == 1) = true := rfl
  refine call_fn (DT_fn _ _ fn_law28_TgsVoid) (run_ret (s := ?ss) ?hh ?kk)
  case hh =>
    simp (maxSteps := 10000000) (disch := first | decide | omega | assumption | rfl | (simp only [List.length_set, List.length_append, List.length_take, List.length_drop, List.length_cons, List.length_nil]; omega)) only [xRun, xRun0, xV, xOps, xOps0, decide_true, decide_false, wordsV_take, bytesV_take, wordsV_drop, bytesV_drop, cellsL_words, cellsL_bytes, List.length_replicate, List.take_of_length_le, false_and, and_false, Nat.le_refl,  ncast0, ncast1, Int.cast_ofNat_Int, stepC, step, evL, List.getD_cons_zero, List.getD_cons_succ, List.map_cons, List.map_nil, putE, List.set_cons_zero, List.set_cons_succ, effO, updsO, updO, putO, delO, getO, topK, visS_nil, confS_nil, effKeys, List.lookup_nil, xGo, xWant, wantB, Eff.val, Option.map_some, Option.map_none, Option.bind_some, List.length_cons, List.length_nil, tups, undefs, List.cons_append, List.nil_append, List.append_nil, Nat.reduceAdd, Nat.reduceSub, Nat.reduceMul, Nat.zero_add, Nat.add_zero, Nat.reduceEqDiff, Nat.reduceLT, Nat.reduceLeDiff, Nat.reduceMod, Nat.reduceDiv, Nat.reduceBEq, Int.reduceLE, Int.reduceEq, Int.reduceLT, Int.reduceToNat, Int.reduceAdd, Int.reduceSub, Int.reduceNeg, reduceIte, reduceCtorEq, if_true, if_false, and_self, and_true, true_and, or_true, true_or, not_true, not_false_eq_true, Bool.false_eq_true, Bool.true_beq, Bool.false_beq, Bool.not_true, Bool.not_false, Bool.and_true, Bool.true_and, Bool.or_true, Bool.true_or, Bool.or_false, Bool.false_or, Bool.or_self, Bool.false_and, Bool.and_false, Bool.and_self, bne_self_eq_false, beq_self_eq_true, Int.natCast_nonneg, Int.toNat_natCast, cutAs, shapeAs, xDeep, xDeep0, kills, doCall, lendA, pack, packR, hands, handsL, addN, hasAll, packO, posN, ren, renL, renO, backN, backO, clean, clean.cleanL, cleanO, canon_eq, canonF, putL, resV, one1, List.isEmpty_nil, List.isEmpty_cons, List.any_nil, List.any_cons, List.all_nil, List.all_cons, List.contains_nil, List.contains_cons, List.range, List.range.loop, Option.getD_some, Option.isSome_some, List.getElem?_cons_zero, List.getElem?_cons_succ, List.getElem?_nil, List.drop_zero, List.drop_succ_cons, List.drop_nil, bfs, xUn, bound, natOf, rowOf, chunk, envOf, List.foldl_cons, List.foldl_nil, wrap_succ, Nat.mul_one, Nat.one_mul, Int.reduceMul, ne_eq, Option.getD_none, bytesV_set, wordsV_set, bytesV_length, wordsV_length, handsL_bytes, renL_bytes, deepW_bytes, handsL_words, renL_words, deepW_words, xCmp, xI64, xStr, u8_ofInt_toNat, u32_ofInt_toNat, d_law28_TgsVoid, isB_len hv, isB_view hv, isB_deep hv, isB_hands hv, isB_ren hv, isB_width hv, isB_cells hv, isB_sto hv, isB_one hv, isB_at hv, faddrV, l1, l2, l3, l4, hk, e1, c_works, c_key, c_make, g1, g2, noTicket, noAuth, splices, spliceL, List.take_zero, List.take_nil, List.take_succ_cons, Option.map_some]
    all_goals with_reducible rfl
  case kk =>
    simp (maxSteps := 10000000) (disch := first | decide | omega | assumption | rfl | (simp only [List.length_set, List.length_append, List.length_take, List.length_drop, List.length_cons, List.length_nil]; omega)) only [xRun, xRun0, xV, xOps, xOps0, decide_true, decide_false, wordsV_take, bytesV_take, wordsV_drop, bytesV_drop, cellsL_words, cellsL_bytes, List.length_replicate, List.take_of_length_le, false_and, and_false, Nat.le_refl,  ncast0, ncast1, Int.cast_ofNat_Int, stepC, step, evL, List.getD_cons_zero, List.getD_cons_succ, List.map_cons, List.map_nil, putE, List.set_cons_zero, List.set_cons_succ, effO, updsO, updO, putO, delO, getO, topK, visS_nil, confS_nil, effKeys, List.lookup_nil, xGo, xWant, wantB, Eff.val, Option.map_some, Option.map_none, Option.bind_some, List.length_cons, List.length_nil, tups, undefs, List.cons_append, List.nil_append, List.append_nil, Nat.reduceAdd, Nat.reduceSub, Nat.reduceMul, Nat.zero_add, Nat.add_zero, Nat.reduceEqDiff, Nat.reduceLT, Nat.reduceLeDiff, Nat.reduceMod, Nat.reduceDiv, Nat.reduceBEq, Int.reduceLE, Int.reduceEq, Int.reduceLT, Int.reduceToNat, Int.reduceAdd, Int.reduceSub, Int.reduceNeg, reduceIte, reduceCtorEq, if_true, if_false, and_self, and_true, true_and, or_true, true_or, not_true, not_false_eq_true, Bool.false_eq_true, Bool.true_beq, Bool.false_beq, Bool.not_true, Bool.not_false, Bool.and_true, Bool.true_and, Bool.or_true, Bool.true_or, Bool.or_false, Bool.false_or, Bool.or_self, Bool.false_and, Bool.and_false, Bool.and_self, bne_self_eq_false, beq_self_eq_true, Int.natCast_nonneg, Int.toNat_natCast, cutAs, shapeAs, xDeep, xDeep0, kills, doCall, lendA, pack, packR, hands, handsL, addN, hasAll, packO, posN, ren, renL, renO, backN, backO, clean, clean.cleanL, cleanO, canon_eq, canonF, putL, resV, one1, List.isEmpty_nil, List.isEmpty_cons, List.any_nil, List.any_cons, List.all_nil, List.all_cons, List.contains_nil, List.contains_cons, List.range, List.range.loop, Option.getD_some, Option.isSome_some, List.getElem?_cons_zero, List.getElem?_cons_succ, List.getElem?_nil, List.drop_zero, List.drop_succ_cons, List.drop_nil, bfs, xUn, bound, natOf, rowOf, chunk, envOf, List.foldl_cons, List.foldl_nil, wrap_succ, Nat.mul_one, Nat.one_mul, Int.reduceMul, ne_eq, Option.getD_none, bytesV_set, wordsV_set, bytesV_length, wordsV_length, handsL_bytes, renL_bytes, deepW_bytes, handsL_words, renL_words, deepW_words, xCmp, xI64, xStr, u8_ofInt_toNat, u32_ofInt_toNat, d_law28_TgsVoid]
end Go.Dm.T
set_option linter.unusedSimpArgs false
set_option linter.unusedVariables false
namespace Go.Dm.T
open Go Go.Dm Go.Proofs
theorem eqTypes_int (P : Program) : EqTypes P (intErrs P) := by
  intro t ht
  have hm : t ∈ intErrs P := by simpa using ht
  have h := (List.mem_filter.1 hm).2
  cases hi : P.info? t with
  | none => simp [hi] at h
  | some i =>
    cases hu : P.underlying t with
    | none => simp [hi, hu] at h
    | some d =>
      rw [hi, hu] at h
      cases d <;> simp at h
      rename_i k
      exact ⟨i, k, rfl, h.1, rfl⟩
theorem eqs_eq : intErrs Tryz.prog = T.eqs := by kernel_rfl
theorem seatEq : EqTypes Tryz.prog T.eqs := eqs_eq ▸ eqTypes_int Tryz.prog
theorem seatMixed : Tryz.prog.follows .mixedOrders = true := by kernel_rfl
theorem seatFn : ∀ f F, fnT f = some F → ∃ fn hint, Tryz.prog.funcs[f]? = some fn ∧ cFun Tryz.prog T.eqs F.lend hint fn = some F := fun f F h => FT.get_all ok_all h
theorem good0 : Good Tryz.prog T.eqs D0 := ⟨seatEq, seatMixed, seatFn, fun f p _ h => (by cases h), fun f p _ h => (by cases h)⟩
theorem seeEnt : Ent Tryz.prog n_cache_Replay_See := ⟨Tryz.f90, Tryz.func90, by kernel_rfl, by kernel_rfl⟩
theorem goodT : Good Tryz.prog T.eqs DT := by
  have h0 := callN_sound good0 20
  refine ⟨seatEq, seatMixed, seatFn, fun f p _ h => ?_, fun f p _ h => ?_⟩
  · have h' : primT f = some p := h
    unfold primT at h'
    split at h'
    · rename_i e; rw [e]; exact seeEnt
    · cases h'
  · have h' : primT f = some p := h
    unfold primT at h'
    split at h'
    · rename_i e
      rw [Option.some.injEq] at h'
      subst h'
      rw [e]
      exact See.see_sound (lend := D0.lend) seatMixed h0.1 h0.2 seatEq
    · cases h'
theorem soundT (n : Nat) : CSnd Tryz.prog glT (callN DT n) := (callN_sound goodT n).1
end Go.Dm.T
set_option linter.unusedSimpArgs false
set_option linter.unusedVariables false
namespace Go.Dm
open Go.ChangeShapes Go.RowKit
/-- What a law's call begins with: nothing is the call's own; what is there is written by nobody. -/
theorem rel_start (W : World) : Rel W (fun _ => False) (fun b => b < W.heap.size) (fun b => b < W.heap.size) rho0 (getO []) (fun h => h < 0) W :=
  ⟨rfl, rfl, rfl, Nat.le_refl _, fun _ _ _ => rfl, fun _ => Nat.le_refl _, fun _ h => h, fun _ h => .inl h, fun h p hp => by simp [rho0] at hp, fun h o ho => by simp [getO] at ho, fun h h' o o' b s b' s' g1 => by simp [getO] at g1⟩
theorem rel_below {W W' : World} {I0 I : Nat → Prop} {ρ : Rho} {g : Nat → Option Obj} {used : Nat → Prop} (h : Rel W (fun _ => False) I0 I ρ g used W') : Below W.heap.size W W' :=
  ⟨h.os, h.tape, h.output, h.size, fun k hk => h.frame k hk (fun h => h)⟩
theorem kept_below {W W' : World} (h : Below W.heap.size W W') (may : MemPlace → Prop) : W.keptBut W' may := by
  refine ⟨h.os, h.output, fun i hi => ?_⟩
  rw [h.block i hi]
  cases W.heap[i]? with
  | none => rfl
  | some o => cases o <;> simp

theorem slice_val {P : Program} {W : World} {b : Nat} {t e : TypeId} {v : Value} (ht : P.underlying t = some (.slice e)) (hv : Value.okWide P W .any b t v) : v.cells.toList = [v] := by
  unfold Value.okWide at hv
  simp only [ht] at hv
  unfold Cell.okWide at hv
  simp only [ht] at hv
  unfold Cell.ok at hv
  simp only [ht] at hv
  cases v <;> simp_all [Value.cells]
theorem rl_ints {w : World} {I : Nat → Prop} {ρ : Rho} (k : IntKind) : ∀ zs : List Int, RL w I ρ (zs.map fun z => Value.int k z) (zs.map fun z => V.int k z)
  | [] => RL.nil
  | z :: zs => RL.int k z (rl_ints k zs)
theorem flat_ints {α : Type} (k : IntKind) (f : α → Int) (l : List α) : flatL (l.map fun z => V.int k (f z)) := by
  intro y hy
  obtain ⟨z, _, rfl⟩ := List.mem_map.1 hy
  rfl

/-- Bytes that came with the call. -/
theorem bytes_arg {H : Type} {enc : TypeId × Value → H} {P : Program} {W : World} {b : Nat} {t e : TypeId} {v : Value} {d : DataW H} {ps : List MemPlace} (ht : P.underlying t = some (.slice e)) (he : P.underlying e = some (.int .u8)) (hc : P.cellsOf e = 1)
    (hv : Value.okWide P W .any b t v) (h : DataW.Trod enc P W 0 (fun _ => true) true t v d ps) : ∃ x l, T.IsB x l ∧ RL W (fun b => b < W.heap.size) rho0 [v] [x] := by
  obtain ⟨fuel, hf⟩ := h
  rw [slice_val ht hv] at hf
  rcases open_ints ht he hc hf with ⟨h1, _⟩ | ⟨a, len, cap, zs, h1, _, hle, _, hlen, _, hcells, hwf⟩
  · simp only [List.cons.injEq, and_true] at h1
    rw [h1]
    exact ⟨.nils, [], T.isB_nil, RL.nils _ RL.nil⟩
  · simp only [List.cons.injEq, and_true] at h1
    rw [h1]
    simp only [if_true] at hlen
    by_cases h0 : len = 0
    · subst h0
      exact ⟨.sl (bytesV []) 1, [], T.isB_sl [], RL.sl0 _ _ _ RL.nil⟩
    · have c0 := hcells 0 (by omega)
      have ha : a = ⟨a.block, a.off, none⟩ := by
        have : a.add 0 = a := by simp [Addr.add]
        rw [this] at c0
        unfold World.cell? at c0
        split at c0
        · split at c0
          · cases c0
          · rename_i hs
            cases a with
            | mk b o s => cases s with
              | none => rfl
              | some _ => simp at hs
        · cases c0
      have hadd : ∀ i, a.add i = ⟨a.block, a.off + i, none⟩ := fun i => by
        unfold Addr.add
        split
        · rename_i h; subst h; exact ha
        · rfl
      have hI : a.block < W.heap.size := by
        rw [hadd 0] at c0
        rcases Nat.lt_or_ge a.block W.heap.size with h | h
        · exact h
        · simp [World.cell?, Array.getElem?_eq_none h] at c0
      have hb : (zs.take len).map (fun z => V.int .u8 z) = bytesV ((zs.take len).map fun z => UInt8.ofNat z.toNat) := by
        rw [bytesV, List.map_map]
        refine List.map_congr_left fun z hz => ?_
        have := hwf z (List.mem_of_mem_take hz)
        have hw : (0 : Int) ≤ z ∧ z ≤ 255 := by simpa [Lit.wf, IntKind.min, IntKind.max, IntKind.signed, IntKind.bits] using this
        simp only [Function.comp]
        congr 1
        simp only [UInt8.toNat_ofNat']
        omega
      have hl : (bytesV ((zs.take len).map fun z => UInt8.ofNat z.toNat)).length = len := by simp [bytesV]; omega
      refine ⟨_, _, T.isB_sl ((zs.take len).map fun z => UInt8.ofNat z.toNat), ?_⟩
      have key := RL.sl1 (w := W) (I := fun b => b < W.heap.size) (ρ := rho0) (vs := []) (xs := []) a.block a.off cap 1 (bytesV ((zs.take len).map fun z => UInt8.ofNat z.toNat)) ((zs.take len).map fun z => Value.int .u8 z)
        (by omega) (fun e he => by obtain ⟨z, _, rfl⟩ := List.mem_map.1 he; rfl) (by rw [cellsL_bytes]; exact flat_ints _ _ _) hI (fun j v hv => by
          simp only [List.getElem?_map, Option.map_eq_some_iff] at hv
          obtain ⟨z, hz, rfl⟩ := hv
          have hj : j < len := by
            have := (List.getElem?_eq_some_iff.1 hz).1
            simp at this; omega
          have := hcells j (by omega)
          rw [hadd j] at this
          rw [this, List.getD_eq_getElem?_getD]
          rw [List.getElem?_take, if_pos hj] at hz
          rw [hz]; rfl) (by rw [cellsL_bytes, ← hb]; exact rl_ints _ _) RL.nil
      rw [hl, ← ha] at key
      exact key
end Go.Dm
namespace Go.Proofs.YtllfbfkjbhpfeaaGreatDoor.tgsVoid
open Go.ChangeShapes Go.WideShapes Go.ChangeAt Go.RowKit Go.Dm

theorem own : ownKnob Tryz.prog.godebug = none := by kernel_rfl
theorem laidOut : laidOutB Tryz.prog = true := by kernel_rfl
theorem g1N : Tryz.prog.globalNamed "internal/strconv.uint64pow10" = some 1 := by kernel_rfl
theorem g2N : Tryz.prog.globalNamed "seneschal/sha.constants" = some 2 := by kernel_rfl
theorem g1T : (Tryz.prog.globals[1]?).map (·.type) = some 273 := by kernel_rfl
theorem g2T : (Tryz.prog.globals[2]?).map (·.type) = some 282 := by kernel_rfl
theorem c126 : Tryz.prog.cellsOf 126 = 1 := by kernel_rfl
theorem c267 : Tryz.prog.cellsOf 267 = 1 := by kernel_rfl
theorem c273 : Tryz.prog.cellsOf 273 = 20 := by kernel_rfl
theorem c282 : Tryz.prog.cellsOf 282 = 64 := by kernel_rfl
theorem c5 : Tryz.prog.cellsOf 5 = 1 := by kernel_rfl
def pow10 : List Int := (List.range 20).map fun i => ((10 ^ i : Nat) : Int)
def shaC : List Int := T.shaK.map fun x => (x.toNat : Int)
theorem pow_eq {H : Type} : (Rows.laid_internal_strconv_uint64pow10 : DataW H) = Lib.tabData .u64 pow10 := by kernel_rfl
theorem sha_eq {H : Type} : (Rows.laid_seneschal_sha_constants : DataW H) = Lib.tabData .u32 shaC := by kernel_rfl
theorem laid_split {W : World} (h : laidMetH Tryz.prog Rows.tgsVoidRow.laid W) : laidMet Tryz.prog [("math/bits.deBruijn32tab", Rows.laid_math_bits_deBruijn32tab), ("math/bits.deBruijn64tab", Rows.laid_math_bits_deBruijn64tab), ("internal/strconv.uint64pow10", Rows.laid_internal_strconv_uint64pow10), ("seneschal/sha.constants", Rows.laid_seneschal_sha_constants)] W := by
  have e1 : (Rows.tgsVoidRow.laid.filter fun x => x.2.handleName?.isSome) = [("errors.errorType", Rows.laid_errors_errorType)] := by kernel_rfl
  have e2 : (Rows.tgsVoidRow.laid.filter fun x => x.2.handleName?.isNone) = [("math/bits.deBruijn32tab", Rows.laid_math_bits_deBruijn32tab), ("math/bits.deBruijn64tab", Rows.laid_math_bits_deBruijn64tab), ("internal/strconv.uint64pow10", Rows.laid_internal_strconv_uint64pow10), ("seneschal/sha.constants", Rows.laid_seneschal_sha_constants)] := by kernel_rfl
  unfold laidMetH at h
  rw [e1, e2] at h
  exact h.1
theorem tabs {W : World} (h : laidMetH Tryz.prog Rows.tgsVoidRow.laid W) : Lib.TabIs Tryz.prog W "internal/strconv.uint64pow10" .u64 pow10 ∧ Lib.TabIs Tryz.prog W "seneschal/sha.constants" .u32 shaC := by
  have h1 := (laid_split h).tail.tail
  have h2 := h1.tail
  rw [pow_eq] at h1
  rw [sha_eq] at h2
  exact ⟨Lib.tabIs_of_head g1N g1T Tryz.underlying273 Tryz.underlying126 c126 c273 h1, Lib.tabIs_of_head g2N g2T Tryz.underlying282 Tryz.underlying267 c267 c282 h2⟩
theorem tab_gl {W : World} {name : String} {k : IntKind} {zs : List Int} {g : Nat} (h : Lib.TabIs Tryz.prog W name k zs) (hg : Tryz.prog.globalNamed name = some g) (hz : 0 < zs.length) :
    g < W.heap.size ∧ flatL (zs.map fun z => V.int k z) ∧ ∃ vs, At W g 0 vs ∧ RL W (fun b => b < W.heap.size) rho0 vs (zs.map fun z => V.int k z) := by
  have hc := fun i hi => Lib.TabIs.cell h hg i hi
  refine ⟨?_, flat_ints k (fun z => z) zs, zs.map fun z => Value.int k z, fun j v hv => ?_, rl_ints k zs⟩
  · have := hc 0 hz
    rcases Nat.lt_or_ge g W.heap.size with h | h
    · exact h
    · simp [World.cell?, Array.getElem?_eq_none h] at this
  · simp only [List.getElem?_map, Option.map_eq_some_iff] at hv
    obtain ⟨z, hz, rfl⟩ := hv
    have hj := (List.getElem?_eq_some_iff.1 hz).1
    rw [Nat.zero_add, hc j hj, List.getD_eq_getElem?_getD, hz]; rfl
theorem gl1 : T.glT 1 = some (pow10.map fun z => V.int .u64 z) := by kernel_rfl
theorem gl2 : T.glT 2 = some (shaC.map fun z => V.int .u32 z) := by kernel_rfl
theorem globals {W : World} (h : laidMetH Tryz.prog Rows.tgsVoidRow.laid W) : GlR W (fun b => b < W.heap.size) T.glT := by
  intro gi cs hg
  obtain ⟨h1, h2⟩ := tabs h
  by_cases e2 : gi = 2
  · subst e2
    rw [gl2] at hg
    cases hg
    exact tab_gl h2 g2N (by rw [show shaC.length = 64 by kernel_rfl]; decide)
  by_cases e1 : gi = 1
  · subst e1
    rw [gl1] at hg
    cases hg
    exact tab_gl h1 g1N (by rw [show pow10.length = 20 by kernel_rfl]; decide)
  · unfold T.glT at hg
    rw [if_neg e2, if_neg e1] at hg
    cases hg

set_option maxRecDepth 100000 in
/-- WHAT THE CALL DOES, FOR EVERY ARGUMENT AND EVERY WORLD THAT HOLDS THE TABLES. -/
theorem contract (H : Type) (enc : TypeId × Value → H) (W : World) (base : Nat) (args : Array Value) (ds gs : List (DataW H)) (before : List MemPlace)
    (hval0 : ∀ (j : Nat) t v, Tryz.f8.params[j]? = some t → args[j]? = some v → Value.okWide Tryz.prog W .any base t v)
    (hW : DataW.Whole enc Tryz.prog Tryz.f8.params.toList Rows.tgsVoidSpec.vars false W args.toList ds gs before) (hL : laidMetH Tryz.prog Rows.tgsVoidRow.laid W) :
    Calls Tryz.prog 8 args W fun e W' => ∃ v, e = .returned v ∧ Rows.tgsVoidSpec.post enc Tryz.prog Tryz.f8 false true false false W args v W' := by
  have hval := hval0
  have hW' := hW
  have hlt := hW.lt
  obtain ⟨p, q, hA0, hV, rfl, hfz, hnd⟩ := hW
  have hA : DataW.TrodAll enc Tryz.prog W 0 (fun _ => true) true Tryz.f8.params.toList args.toList ds p := hA0
  rw [Tryz.params8] at hA hval
  obtain ⟨v0, v1, d0, d1, p0, p1, rfl, rfl, rfl, h0, h1⟩ := trodAll_two hA
  obtain ⟨rfl, rfl⟩ := trodVars_none hV
  obtain ⟨n, rfl, rfl, rfl, wn⟩ := open_int Tryz.underlying3 (hval 1 3 v1 rfl rfl) h1
  obtain ⟨x, l, hx, hr⟩ := bytes_arg Tryz.underlying22 Tryz.underlying5 c5 (hval 0 22 v0 rfl rfl) h0
  obtain ⟨_, hcall⟩ := T.soundT 126 8 [x, .int .i64 n] [] (.bool true) [] (T.c_TgsVoid x l n hx) W (fun _ => False) (fun b => b < W.heap.size) rho0 #[v0, .int .i64 n] (rel_start W)
    (RL.cons hr (RL.int _ _ RL.nil)) (globals hL) (fun p hp => by cases hp)
  refine hcall.mono fun e W' he => ?_
  obtain ⟨rv, I', ρ', rfl, hrv, hrel, _⟩ := he
  have hb := rel_below hrel
  have hrv' : rv = .bool true := inv_bool hrv
  subst hrv'
  refine ⟨_, rfl, [d0, .lit (.int .i64 n)], [], p0 ++ [] ++ [], [], p0 ++ [], [], hW', ?_, ?_, rfl, kept_below hb _, fun h => by cases h⟩
  · exact trodAll_mk1 (shut_bool Tryz.underlying4 true)
  · show DataW.TrodAll enc Tryz.prog W' 0 (fun b => decide (b < W.heap.size)) true Tryz.f8.params.toList [v0, .int .i64 n] [d0, .lit (.int .i64 n)] (p0 ++ [])
    rw [Tryz.params8]
    exact trodAll_mk2 (Below.trod laidOut (by kernel_rfl) (of_decide_eq_true (by kernel_rfl)) h0 hb fun y hy => hlt y (by simp [hy])) (shut_int Tryz.underlying3 wn)

def tab32 : List Int := [0, 1, 28, 2, 29, 14, 24, 3, 30, 22, 20, 15, 25, 17, 4, 8, 31, 27, 13, 23, 21, 19, 16, 7, 26, 12, 18, 6, 11, 5, 10, 9]
def tab64 : List Int := [0, 1, 56, 2, 57, 49, 28, 3, 61, 58, 42, 50, 38, 29, 17, 4, 62, 47, 59, 36, 45, 43, 51, 22, 53, 39, 33, 30, 24, 18, 12, 5, 63, 55, 48, 27, 60, 41, 37, 16, 46, 35, 44, 21, 52, 32, 23, 11, 54, 26, 40, 15, 34, 20, 31, 10, 25, 14, 19, 9, 13, 8, 7, 6]
/-- A world for the witness: the settled one, the variables holding what their initialisers lay. -/
noncomputable def laidWorld (os : Os) : World :=
  { World.holding Tryz.prog os ⟨#[], #[], []⟩ with heap := ((((((World.holding Tryz.prog os ⟨#[], #[], []⟩).heap.modify 0 fun
      | .cells _ t frozen => .cells #[.iface 199 (.agg #[.pointer (some ⟨5, 113, none⟩)])] t frozen
      | o => o).modify 1 fun
      | .cells _ t frozen => .cells (pow10.map fun z => Value.int .u64 z).toArray t frozen
      | o => o).modify 2 fun
      | .cells _ t frozen => .cells (shaC.map fun z => Value.int .u32 z).toArray t frozen
      | o => o).modify 3 fun
      | .cells _ t frozen => .cells (tab32.map fun z => Value.int .u8 z).toArray t frozen
      | o => o).modify 4 fun
      | .cells _ t frozen => .cells (tab64.map fun z => Value.int .u8 z).toArray t frozen
      | o => o) }
theorem laid_met (os : Os) : laidMetH Tryz.prog Rows.tgsVoidRow.laid ((laidWorld os).forCall (fun _ _ => 0) ⟨#[], #[.slice none 0 0, .int .i64 0], []⟩).memory :=
  laidMetH_of_parts (laidMet_of_run' 8 (by kernel_rfl) (by kernel_rfl)) (by kernel_rfl)
theorem reads (os : Os) {H : Type} (enc : TypeId × Value → H) : ∃ places, DataW.whole enc Tryz.prog ((laidWorld os).forCall (fun _ _ => 0) ⟨#[], #[.slice none 0 0, .int .i64 0], []⟩).memory Tryz.f8.params.toList Rows.tgsVoidSpec.vars false #[Value.slice none 0 0, .int .i64 0].toList 8 = some ([.nil, .lit (.int .i64 0)], [], places) :=
  ⟨[], by kernel_rfl⟩

set_option maxRecDepth 100000 in
theorem lifted (os : Os) (started : os.Started) (H : Type) (enc : TypeId × Value → H) (F : Stop.Interp) :
    ReturnsInHanded {} Tryz.checked os 8 .any ((OpenSpec.ofChange Rows.tgsVoidSpec).preRow enc Tryz.prog Tryz.f8 Rows.tgsVoidRow.domain false Rows.tgsVoidRow.laid) (((OpenSpec.ofChange Rows.tgsVoidSpec).at F).post enc Tryz.prog Tryz.f8 false true false false) := by
  obtain ⟨places, hx⟩ := reads os enc
  refine returnsInHanded_of_row (C := Tryz.checked) (s := OpenSpec.ofChange Rows.tgsVoidSpec) own started (by kernel_rfl) Tryz.func8
    (witness_row_at (enc := enc) (C := Tryz.checked) false (laidWorld os) #[.slice none 0 0, .int .i64 0] rfl (by kernel_rfl) (by kernel_rfl) (by kernel_rfl)
      (OpenSpec.preRow_of_cond 8 hx (by kernel_rfl) (fun k hk => by cases hk) (by kernel_rfl) (laid_met os))) ?_
  intro W base args ds gs before hval hW _ _ _ hL _ _
  exact contract H enc W base args ds gs before hval hW hL

theorem said : Rows.TgsVoidSaid :=
  OpenClaim.holds_of_cond 8 Tryz.f8 rfl rfl rfl rfl rfl rfl rfl ⟨rfl, rfl, rfl, rfl, rfl⟩ rfl rfl rfl rfl rfl (by kernel_rfl) Tryz.func8 (by kernel_rfl)
    (of_decide_eq_true (by kernel_rfl)) (by unfold Func.isWrapper; first | (rw [if_pos (by decide +kernel)]; kernel_rfl) | (rw [if_neg (by decide +kernel)]; exact ⟨rfl, rfl⟩))
    (fun os started H enc _ F => by rw [OpenClaim.pre_eq_preRow]; exact lifted os started H enc F)

/-- No parameter wants a stand-in; the program's own looks are off. -/
theorem plain (f : FuncId) (fn : Func) (hf : Tryz.pinned.checked.prog.funcNamed "seneschal/seneschallaw28.TgsVoid" = some f) (hfn : Tryz.pinned.checked.prog.funcs[f]? = some fn) :
    true = Tryz.pinned.checked.prog.looks [] ∧ ∀ (j : Nat) t, fn.params[j]? = some t → Tryz.pinned.checked.prog.wantsStandIn t = false := by
  obtain rfl : f = 8 := Option.some.inj ((show Tryz.prog.funcNamed "seneschal/seneschallaw28.TgsVoid" = some 8 by kernel_rfl).symm.trans hf) |>.symm
  obtain rfl : fn = Tryz.f8 := (Option.some.inj (Tryz.func8.symm.trans hfn)).symm
  refine ⟨by kernel_rfl, fun j t ht => ?_⟩
  rw [Tryz.params8] at ht
  have := Array.mem_of_getElem? ht
  simp only [List.mem_toArray, List.mem_cons, List.not_mem_nil, or_false] at this
  rcases this with rfl | rfl
  · exact (show Tryz.prog.wantsStandIn 22 = false by kernel_rfl)
  · exact (show Tryz.prog.wantsStandIn 3 = false by kernel_rfl)
end Go.Proofs.YtllfbfkjbhpfeaaGreatDoor.tgsVoid
namespace Go.Proofs.YtllfbfkjbhpfeaaGreatDoor
open tgsVoid
/-- THE CARD: TgsVoid. -/
theorem tgsVoid_holds : Rows.TgsVoidCardSaid :=
  Claim7.holds_tied_plain_at .later [] _ _ _ _ said (fun _ h => by cases h) (by kernel_rfl) (fun _ h => by cases h) tgsVoid_row_tie rfl ⟨rfl, rfl⟩ (by kernel_rfl) rfl plain (by kernel_rfl)
#print axioms tgsVoid_holds
end Go.Proofs.YtllfbfkjbhpfeaaGreatDoor
