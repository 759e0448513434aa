/- Contracts of a ticket's errors and of its look. -/
import Derived.Test.YtllfbfkjbhpfeaaGreatDoorWa
import Derived.Test.YtllfbfkjbhpfeaaGreatDoorWb
import Derived.Test.YtllfbfkjbhpfeaaGreatDoorWc
import Derived.Test.YtllfbfkjbhpfeaaGreatDoorWd
import Derived.Test.YtllfbfkjbhpfeaaGreatDoorWe
import Derived.Test.YtllfbfkjbhpfeaaGreatDoorWf
import Derived.Test.YtllfbfkjbhpfeaaGreatDoorWg
import Derived.Test.YtllfbfkjbhpfeaaGreatDoorCc
set_option linter.unusedSimpArgs false
set_option linter.unusedVariables false
set_option linter.unusedSectionVars false
set_option linter.unusedSimpArgs false
set_option linter.unusedVariables false
set_option linter.unusedSectionVars false
namespace Go.Dm.T
open Go.Dm

theorem x_mE1 : callN DT 35 mE1.f mE1.args [] = some (mE1.r, mE1.os) := callH_le (hotM_ok hotT_ok (by simp)) 30 _ _ _ _ e_mE1
theorem x_mE2 : callN DT 35 mE2.f mE2.args [] = some (mE2.r, mE2.os) := callH_le (hotM_ok hotT_ok (by simp)) 30 _ _ _ _ e_mE2
theorem hotE : HotOk (hotM [mE1, mE2]) DT 35 := hotM_ok (hotOk_le hotT_ok (by omega)) fun m hm => by
  simp only [List.mem_cons, List.not_mem_nil, or_false] at hm
  rcases hm with rfl | rfl
  · exact x_mE1
  · exact x_mE2
theorem x_mAsk : callN DT 65 mAsk.f mAsk.args [] = some (mAsk.r, mAsk.os) := callH_le hotE 30 _ _ _ _ e_mAsk
theorem x_mOpen : callN DT 65 mOpen.f mOpen.args [] = some (mOpen.r, mOpen.os) := callH_le hotE 30 _ _ _ _ e_mOpen
theorem hotO : HotOk (hotM [mOpen]) DT 65 := hotM_ok (hotOk_le hotT_ok (by omega)) fun m hm => by
  simp only [List.mem_cons, List.not_mem_nil, or_false] at hm
  rcases hm with rfl
  exact x_mOpen
theorem x_mOpened : callN DT 95 mOpened.f mOpened.args [] = some (mOpened.r, mOpened.os) := callH_le hotO 30 _ _ _ _ e_mOpened
theorem hotW : HotOk (hotM [mAsk, mOpened]) DT 95 := hotM_ok (hotOk_le hotT_ok (by omega)) fun m hm => by
  simp only [List.mem_cons, List.not_mem_nil, or_false] at hm
  rcases hm with rfl | rfl
  · exact callN_le DT (by omega) _ _ _ _ x_mAsk
  · exact x_mOpened
theorem c_works : callN DT 125 n_law28_works [] [] = some (.bool true, []) := callH_le hotW 30 _ _ _ _ e_works
def keyC : List UInt8 := [99, 5, 10, 15, 20, 25, 30, 35, 40, 45, 50, 55, 60, 65, 70, 75]
theorem c_key0 : callN DT 3 n_law28_key [.str [99]] [] = some (.hs 0 0 16, [(0, .row (bytesV keyC) 1)]) := by kernel_rfl
theorem c_key : callN DT 125 n_law28_key [.str [99]] [] = some (.hs 0 0 16, [(0, .row (bytesV keyC) 1)]) := callN_le DT (by omega) _ _ _ _ c_key0
theorem c_make0 : callN DT 5 n_tgs_Make [.nilp, .int .i64 1, .int .i64 1] [] = some (.tup [.nilp, .int .i64 1], []) := by kernel_rfl
theorem c_make : callN DT 125 n_tgs_Make [.nilp, .int .i64 1, .int .i64 1] [] = some (.tup [.nilp, .int .i64 1], []) := callN_le DT (by omega) _ _ _ _ c_make0
theorem q1 : eqV 1 false [] .nilp .nilp = some true := rfl
theorem q2 (h i f : Nat) : eqV 1 false [] (.hp h i f) .nilp = some false := rfl
def noTicket : V := .agg [.str [], .str [], .nils, .int .i64 0, .int .i64 0, .int .i64 0, .int .i64 0]
def noAuth : V := .agg [.str [], .int .i64 0, .int .i64 0]
theorem c_Grant_nil (n : Nat) (v k : V) (b : List UInt8) (now : Int) (hv : IsB v b) :
    callN DT (n + 1) n_tgs_Server_Grant [.nilp, v, k, .int .i64 now] [] = some (.tup [noTicket, noAuth, .int .i64 0, .int .i64 1], []) := by
  refine call_fn (DT_fn _ _ fn_tgs_Server_Grant) (run_ret (s := ?ss) ?hh ?kk)
  case hh =>
    simp (maxSteps := 10000000) (disch := first | decide | omega | assumption | rfl | (simp only [List.length_set, List.length_append, List.length_take, List.length_drop, List.length_cons, List.length_nil]; omega)) only [go_sem, Nat.reduceAdd, Nat.reduceSub, Nat.reduceMul, Nat.reduceEqDiff, Nat.reduceLT, Nat.reduceLeDiff, Nat.reduceMod, Nat.reduceDiv, Nat.reduceBEq, Int.reduceLE, Int.reduceEq, Int.reduceLT, Int.reduceToNat, Int.reduceAdd, Int.reduceSub, Int.reduceNeg, reduceIte, reduceCtorEq, Int.reduceMul, d_tgs_Server_Grant, isB_len hv, isB_view hv, isB_deep hv, isB_hands hv, isB_ren hv, isB_width hv, isB_cells hv, isB_sto hv, isB_one hv, isB_at hv, q1, q2, splices, spliceL, List.take_zero, List.take_nil, Option.map_some]
    all_goals with_reducible rfl
  case kk =>
    simp (maxSteps := 10000000) (disch := first | decide | omega | assumption | rfl | (simp only [List.length_set, List.length_append, List.length_take, List.length_drop, List.length_cons, List.length_nil]; omega)) only [go_sem, Nat.reduceAdd, Nat.reduceSub, Nat.reduceMul, Nat.reduceEqDiff, Nat.reduceLT, Nat.reduceLeDiff, Nat.reduceMod, Nat.reduceDiv, Nat.reduceBEq, Int.reduceLE, Int.reduceEq, Int.reduceLT, Int.reduceToNat, Int.reduceAdd, Int.reduceSub, Int.reduceNeg, reduceIte, reduceCtorEq, Int.reduceMul, d_tgs_Server_Grant, noTicket, noAuth]
theorem c_Grant_zero (n : Nat) (v k : V) (b : List UInt8) (now : Int) (hv : IsB v b) :
    callN DT (n + 1) n_tgs_Server_Grant [.hp 0 0 0, v, k, .int .i64 now] [(0, .box [.nilp, .nilp, .int .i64 0])] = some (.tup [noTicket, noAuth, .int .i64 0, .int .i64 1], [(0, .box [.nilp, .nilp, .int .i64 0])]) := by
  refine call_fn (DT_fn _ _ fn_tgs_Server_Grant) (run_ret (s := ?ss) ?hh ?kk)
  case hh =>
    simp (maxSteps := 10000000) (disch := first | decide | omega | assumption | rfl | (simp only [List.length_set, List.length_append, List.length_take, List.length_drop, List.length_cons, List.length_nil]; omega)) only [go_sem, Nat.reduceAdd, Nat.reduceSub, Nat.reduceMul, Nat.reduceEqDiff, Nat.reduceLT, Nat.reduceLeDiff, Nat.reduceMod, Nat.reduceDiv, Nat.reduceBEq, Int.reduceLE, Int.reduceEq, Int.reduceLT, Int.reduceToNat, Int.reduceAdd, Int.reduceSub, Int.reduceNeg, reduceIte, reduceCtorEq, Int.reduceMul, d_tgs_Server_Grant, isB_len hv, isB_view hv, isB_deep hv, isB_hands hv, isB_ren hv, isB_width hv, isB_cells hv, isB_sto hv, isB_one hv, isB_at hv, faddrV, q1, q2, splices, spliceL, List.take_zero, List.take_nil, Option.map_some]
    all_goals with_reducible rfl
  case kk =>
    simp (maxSteps := 10000000) (disch := first | decide | omega | assumption | rfl | (simp only [List.length_set, List.length_append, List.length_take, List.length_drop, List.length_cons, List.length_nil]; omega)) only [go_sem, Nat.reduceAdd, Nat.reduceSub, Nat.reduceMul, Nat.reduceEqDiff, Nat.reduceLT, Nat.reduceLeDiff, Nat.reduceMod, Nat.reduceDiv, Nat.reduceBEq, Int.reduceLE, Int.reduceEq, Int.reduceLT, Int.reduceToNat, Int.reduceAdd, Int.reduceSub, Int.reduceNeg, reduceIte, reduceCtorEq, Int.reduceMul, d_tgs_Server_Grant, noTicket, noAuth]
theorem c_TgsVoid (v : V) (b : List UInt8) (now : Int) (hv : IsB v b) : callN DT 126 n_law28_TgsVoid [v, .int .i64 now] [] = some (.bool true, []) := by
  have l1 : DT.lend n_law28_key = [true] := lend_of DT_fn fn_law28_key
  have l2 : DT.lend n_tgs_Server_Grant = [false, true, true, true] := lend_of DT_fn fn_tgs_Server_Grant
  have l3 : DT.lend n_tgs_Make = [false, true, true] := lend_of DT_fn fn_tgs_Make
  have l4 : DT.lend n_law28_works = [] := lend_of DT_fn fn_law28_works
  have g1 := c_Grant_nil 124 v (.sl (bytesV keyC) 1) b now hv
  have g2 := c_Grant_zero 124 v (.sl (bytesV keyC) 1) b now hv
  have hk : keyC.length = 16 := rfl
  have e1 : ((1 : Int) == 1) = true := rfl
  refine call_fn (DT_fn _ _ fn_law28_TgsVoid) (run_ret (s := ?ss) ?hh ?kk)
  case hh =>
    simp (maxSteps := 10000000) (disch := first | decide | omega | assumption | rfl | (simp only [List.length_set, List.length_append, List.length_take, List.length_drop, List.length_cons, List.length_nil]; omega)) only [go_sem, Nat.reduceAdd, Nat.reduceSub, Nat.reduceMul, Nat.reduceEqDiff, Nat.reduceLT, Nat.reduceLeDiff, Nat.reduceMod, Nat.reduceDiv, Nat.reduceBEq, Int.reduceLE, Int.reduceEq, Int.reduceLT, Int.reduceToNat, Int.reduceAdd, Int.reduceSub, Int.reduceNeg, reduceIte, reduceCtorEq, Int.reduceMul, d_law28_TgsVoid, isB_len hv, isB_view hv, isB_deep hv, isB_hands hv, isB_ren hv, isB_width hv, isB_cells hv, isB_sto hv, isB_one hv, isB_at hv, faddrV, l1, l2, l3, l4, hk, e1, c_works, c_key, c_make, g1, g2, noTicket, noAuth, splices, spliceL, List.take_zero, List.take_nil, List.take_succ_cons, Option.map_some]
    all_goals with_reducible rfl
  case kk =>
    simp (maxSteps := 10000000) (disch := first | decide | omega | assumption | rfl | (simp only [List.length_set, List.length_append, List.length_take, List.length_drop, List.length_cons, List.length_nil]; omega)) only [go_sem, Nat.reduceAdd, Nat.reduceSub, Nat.reduceMul, Nat.reduceEqDiff, Nat.reduceLT, Nat.reduceLeDiff, Nat.reduceMod, Nat.reduceDiv, Nat.reduceBEq, Int.reduceLE, Int.reduceEq, Int.reduceLT, Int.reduceToNat, Int.reduceAdd, Int.reduceSub, Int.reduceNeg, reduceIte, reduceCtorEq, Int.reduceMul, d_law28_TgsVoid]
end Go.Dm.T
set_option linter.unusedSimpArgs false
set_option linter.unusedVariables false
set_option linter.unusedSectionVars false
namespace Go.Dm.T
open Go.Dm
def tkV (c s : List UInt8) (k : V) (fr un re fl : Int) : V := .agg [.str c, .str s, k, .int .i64 fr, .int .i64 un, .int .i64 re, .int .i64 fl]
def errN : V := badV [110, 97, 109, 101]
def errT : V := badV [116, 105, 109, 101]
def errF : V := badV [102, 108, 97, 103, 115]
/-- Errors, joined: as an object of one's own, and as what nobody writes. -/
def joinV : V := .iface t_P_errors_joinError (.hp 0 0 0)
def joinO (es : List V) : Objs := [(0, .box [.hs 1 0 es.length]), (1, .row es 1)]
def joinF (es : List V) : V := .iface t_P_errors_joinError (.pt [.sl es 1])
theorem join0 (k : Nat) : callN DT (k + 8) n_errors_Join [.sl [.nili, .nili] 1] [] = some (.nili, []) :=
  callN_le DT (by omega) _ _ _ _ (show callN DT 8 n_errors_Join [.sl [.nili, .nili] 1] [] = some (.nili, []) by kernel_rfl)
theorem join1 (k : Nat) : callN DT (k + 8) n_errors_Join [.sl [errN, .nili] 1] [] = some (joinV, joinO [errN]) :=
  callN_le DT (by omega) _ _ _ _ (show callN DT 8 n_errors_Join [.sl [errN, .nili] 1] [] = some (joinV, joinO [errN]) by kernel_rfl)
theorem join2 (k : Nat) : callN DT (k + 8) n_errors_Join [.sl [.nili, errT] 1] [] = some (joinV, joinO [errT]) :=
  callN_le DT (by omega) _ _ _ _ (show callN DT 8 n_errors_Join [.sl [.nili, errT] 1] [] = some (joinV, joinO [errT]) by kernel_rfl)
theorem join3 (k : Nat) : callN DT (k + 8) n_errors_Join [.sl [errN, errT] 1] [] = some (joinV, joinO [errN, errT]) :=
  callN_le DT (by omega) _ _ _ _ (show callN DT 8 n_errors_Join [.sl [errN, errT] 1] [] = some (joinV, joinO [errN, errT]) by kernel_rfl)
theorem joinA (k : Nat) : callN DT (k + 8) n_errors_Join [.sl [.nili, errF] 1] [] = some (joinV, joinO [errF]) :=
  callN_le DT (by omega) _ _ _ _ (show callN DT 8 n_errors_Join [.sl [.nili, errF] 1] [] = some (joinV, joinO [errF]) by kernel_rfl)
theorem joinB (k : Nat) : callN DT (k + 8) n_errors_Join [.sl [joinF [errN], errF] 1] [] = some (joinV, joinO [joinF [errN], errF]) :=
  callN_le DT (by omega) _ _ _ _ (show callN DT 8 n_errors_Join [.sl [joinF [errN], errF] 1] [] = some (joinV, joinO [joinF [errN], errF]) by kernel_rfl)
theorem joinC (k : Nat) : callN DT (k + 8) n_errors_Join [.sl [joinF [errT], errF] 1] [] = some (joinV, joinO [joinF [errT], errF]) :=
  callN_le DT (by omega) _ _ _ _ (show callN DT 8 n_errors_Join [.sl [joinF [errT], errF] 1] [] = some (joinV, joinO [joinF [errT], errF]) by kernel_rfl)
theorem joinD (k : Nat) : callN DT (k + 8) n_errors_Join [.sl [joinF [errN, errT], errF] 1] [] = some (joinV, joinO [joinF [errN, errT], errF]) :=
  callN_le DT (by omega) _ _ _ _ (show callN DT 8 n_errors_Join [.sl [joinF [errN, errT], errF] 1] [] = some (joinV, joinO [joinF [errN, errT], errF]) by kernel_rfl)
/-- What may be wrong with a ticket. -/
def lookBad : List (List V) := [[errN], [errT], [errN, errT], [errF], [joinF [errN], errF], [joinF [errT], errF], [joinF [errN, errT], errF]]
theorem number_bad (k : Nat) (es : List V) (h : es ∈ lookBad) : callN DT (k + 12) n_ticket_number [joinF es] [] = some (.int .i64 200, []) := by
  refine callN_le DT (n := 12) (by omega) _ _ _ _ ?_
  simp only [lookBad, List.mem_cons, List.not_mem_nil, or_false] at h
  rcases h with rfl | rfl | rfl | rfl | rfl | rfl | rfl <;> kernel_rfl
theorem number_badV (k : Nat) (w : List UInt8) : callN DT (k + 12) n_ticket_number [badV w] [] = some (.int .i64 200, []) :=
  callN_le DT (by omega) _ _ _ _ (show callN DT 12 n_ticket_number [badV w] [] = some (.int .i64 200, []) by kernel_rfl)
end Go.Dm.T
set_option linter.unusedSimpArgs false
set_option linter.unusedVariables false
set_option linter.unusedSectionVars false
namespace Go.Dm.T
open Go.Dm
def goodNames (c s : List UInt8) : Bool := goodName c && goodName s
def goodTimes (fr un re : Int) : Bool := goodTime fr && goodTime un && goodTime re
def goodFlags (fr un fl : Int) : Bool := decide (fr < un) && decide (0 ≤ fl) && decide (fl ≤ 15)
def lookR : Bool → Bool → Bool → Option (List V)
  | true, true, true => none
  | false, true, true => some [errN]
  | true, false, true => some [errT]
  | false, false, true => some [errN, errT]
  | true, true, false => some [errF]
  | false, true, false => some [joinF [errN], errF]
  | true, false, false => some [joinF [errT], errF]
  | false, false, false => some [joinF [errN, errT], errF]
theorem lookR_mem {n t f : Bool} {es : List V} (h : lookR n t f = some es) : es ∈ lookBad := by
  cases n <;> cases t <;> cases f <;> simp [lookR] at h <;> subst h <;> simp [lookBad]
def lookV : Option (List V) → V × Objs
  | none => (.nili, [])
  | some es => (joinV, joinO es)
section
variable (k : Nat) (c s : List UInt8) (v : V) (b : List UInt8) (hv : IsB v b) (fr un re fl : Int)
include hv
set_option maxHeartbeats 4000000 in
theorem look_case (n t : Bool) (hn : goodNames c s = n) (ht : goodTimes fr un re = t) (f : Bool) (x1 x2 x3 : Bool) (h1 : decide (un ≤ fr) = x1) (h2 : decide (fl < 0) = x2) (h3 : decide (15 < fl) = x3) (hf : f = (!x1 && !x2 && !x3)) :
    callN DT (k + 9) n_ticket_look [tkV c s v fr un re fl] [] = some (lookV (lookR n t f)) := by
  have l1 : DT.lend n_ticket_names = [true] := lend_of DT_fn fn_ticket_names
  have l2 : DT.lend n_ticket_times = [true] := lend_of DT_fn fn_ticket_times
  have l3 : DT.lend n_errors_Join = [true] := lend_of DT_fn fn_errors_Join
  have hN := c_ticket_names DT DT_fn (k + 7) [c, s] (by simp)
  have hT := c_ticket_times DT DT_fn (k + 7) [fr, un, re] (by simp)
  have j0 := join0 k
  have j1 := join1 k
  have j2 := join2 k
  have j3 := join3 k
  have jA := joinA k
  have jB := joinB k
  have jC := joinC k
  have jD := joinD k
  have en : [c, s].all goodName = n := by rw [← hn]; simp [goodNames]
  have et : [fr, un, re].all goodTime = t := by rw [← ht]; simp [goodTimes, Bool.and_assoc]
  rw [en] at hN
  rw [et] at hT
  simp only [strsV, List.map_cons, List.map_nil] at hN
  simp only [intsV, List.map_cons, List.map_nil] at hT
  simp only [errN, errT, errF, badV, joinV, joinO, joinF, List.length_cons, List.length_nil, Nat.zero_add, Nat.reduceAdd] at hN hT j1 j2 j3 jA jB jC jD
  subst hf
  have d1 : binV .leq (.int .i64 un) (.int .i64 fr) = some (.bool x1) := by rw [xCmp.2.2.2.1, h1]
  have d2 : binV .lss (.int .i64 fl) (.int .i64 0) = some (.bool x2) := by rw [xCmp.2.2.1, h2]
  have d3 : binV .gtr (.int .i64 fl) (.int .i64 15) = some (.bool x3) := by rw [xCmp.2.2.2.2.1, h3]
  clear h1 h2 h3 hn ht en et
  cases n <;> cases t <;> cases x1
  all_goals try (cases x2)
  all_goals try (cases x3)
  all_goals
    refine call_fn (DT_fn _ _ fn_ticket_look) (run_ret (s := ?_) ?_ ?_)
    rotate_left
    · simp (maxSteps := 10000000) (disch := first | decide | omega | assumption | rfl | (simp only [List.length_set, List.length_append, List.length_take, List.length_drop, List.length_cons, List.length_nil]; omega)) only [go_sem, Nat.reduceAdd, Nat.reduceSub, Nat.reduceMul, Nat.reduceEqDiff, Nat.reduceLT, Nat.reduceLeDiff, Nat.reduceMod, Nat.reduceDiv, Nat.reduceBEq, Int.reduceLE, Int.reduceEq, Int.reduceLT, Int.reduceToNat, Int.reduceAdd, Int.reduceSub, Int.reduceNeg, reduceIte, reduceCtorEq, Int.reduceMul, d_ticket_look, tkV, isB_len hv, isB_view hv, isB_deep hv, isB_hands hv, isB_ren hv, isB_width hv, isB_cells hv, isB_sto hv, isB_one hv, isB_at hv, l1, l2, l3, hN, hT, j0, j1, j2, j3, jA, jB, jC, jD, d1, d2, d3, xParts, xPartsD, setParts, List.cons_ne_nil, ofNs_ne, splices, spliceL, List.take_zero, List.take_nil, List.take_succ_cons]
      all_goals with_reducible rfl
    · simp (maxSteps := 10000000) (disch := first | decide | omega | assumption | rfl | (simp only [List.length_set, List.length_append, List.length_take, List.length_drop, List.length_cons, List.length_nil]; omega)) only [go_sem, Nat.reduceAdd, Nat.reduceSub, Nat.reduceMul, Nat.reduceEqDiff, Nat.reduceLT, Nat.reduceLeDiff, Nat.reduceMod, Nat.reduceDiv, Nat.reduceBEq, Int.reduceLE, Int.reduceEq, Int.reduceLT, Int.reduceToNat, Int.reduceAdd, Int.reduceSub, Int.reduceNeg, reduceIte, reduceCtorEq, Int.reduceMul, d_ticket_look, lookR, lookV, errN, errT, errF, badV, joinV, joinO, joinF]
      done
end
end Go.Dm.T
