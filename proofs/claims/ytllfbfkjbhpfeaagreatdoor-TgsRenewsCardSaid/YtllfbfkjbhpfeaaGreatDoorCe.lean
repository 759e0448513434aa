/- Contracts of a ticket's bytes and of a renewed ticket. -/
import Derived.Test.YtllfbfkjbhpfeaaGreatDoorCd
set_option linter.unusedSimpArgs false
set_option linter.unusedVariables false
set_option linter.unusedSectionVars false
set_option linter.unusedSimpArgs false
set_option linter.unusedVariables false
set_option linter.unusedSectionVars false
namespace Go.Dm.T
open Go.Dm
def tkF (fr un fl : Int) : Bool := !decide (un ≤ fr) && !decide (fl < 0) && !decide (15 < fl)
def tkOk (c s : List UInt8) (fr un re fl : Int) : Bool := goodNames c s && goodTimes fr un re && tkF fr un fl
theorem lookR_none {n t f : Bool} (h : (n && t && f) = true) : lookR n t f = none := by
  cases n <;> cases t <;> cases f <;> simp_all [lookR]
theorem lookR_some {n t f : Bool} (h : (n && t && f) = false) : ∃ es, lookR n t f = some es ∧ es ∈ lookBad ∧ es ≠ [] := by
  cases n <;> cases t <;> cases f <;> simp_all [lookR, lookBad]
def tkB (c s : List UInt8) (fr un re fl : Int) : List UInt8 := putS (fldsOf [c, s, intB fr, intB un, intB re, intB fl])
theorem goodName_le {c : List UInt8} (h : goodName c = true) : c.length ≤ 32 := by
  simp only [goodName, Bool.and_eq_true, decide_eq_true_eq] at h; omega
theorem sizeAt_0 (fs : List (Int × List UInt8)) : sizeAt fs 0 = 0 := rfl
theorem sizeAt_s (fs : List (Int × List UInt8)) (i : Nat) : sizeAt fs (i + 1) = sizeAt fs i + (3 + (fs.getD i (0, [])).2.length) := rfl
/-- Six fields of a ticket go into bytes. -/
theorem chk6 (a b c d e f : List UInt8) (h : a.length + b.length + c.length + d.length + e.length + f.length ≤ 4000) : ChkOk (fldsOf [a, b, c, d, e, f]) := by
  have key : fldsOf [a, b, c, d, e, f] = [(1, a), (2, b), (3, c), (4, d), (5, e), (6, f)] := rfl
  rw [key]
  intro i hi
  simp only [List.length_cons, List.length_nil] at hi
  have : i = 0 ∨ i = 1 ∨ i = 2 ∨ i = 3 ∨ i = 4 ∨ i = 5 := by omega
  rcases this with rfl | rfl | rfl | rfl | rfl | rfl <;> simp [lastAt, sizeAt_0, sizeAt_s] <;> omega
theorem chk3 (a b c : List UInt8) (h : a.length + b.length + c.length ≤ 4000) : ChkOk (fldsOf [a, b, c]) := by
  have key : fldsOf [a, b, c] = [(1, a), (2, b), (3, c)] := rfl
  rw [key]
  intro i hi
  simp only [List.length_cons, List.length_nil] at hi
  have : i = 0 ∨ i = 1 ∨ i = 2 := by omega
  rcases this with rfl | rfl | rfl <;> simp [lastAt, sizeAt_0, sizeAt_s] <;> omega
theorem intB_take (n : Int) : (intB n).take 8 = intB n := List.take_of_length_le (by rw [intB_length]; exact Nat.le_refl _)
theorem allB6 (a b c d e f : List UInt8) : AllB [.sl (bytesV a) 1, .sl (bytesV b) 1, .sl (bytesV c) 1, .sl (bytesV d) 1, .sl (bytesV e) 1, .sl (bytesV f) 1] [a, b, c, d, e, f] := by
  refine ⟨rfl, fun i hi => ?_⟩
  simp only [List.length_cons, List.length_nil] at hi
  have : i = 0 ∨ i = 1 ∨ i = 2 ∨ i = 3 ∨ i = 4 ∨ i = 5 := by omega
  rcases this with rfl | rfl | rfl | rfl | rfl | rfl <;> exact ⟨_, rfl, isB_sl _⟩
theorem allB3 (a b c : List UInt8) : AllB [.sl (bytesV a) 1, .sl (bytesV b) 1, .sl (bytesV c) 1] [a, b, c] := by
  refine ⟨rfl, fun i hi => ?_⟩
  simp only [List.length_cons, List.length_nil] at hi
  have : i = 0 ∨ i = 1 ∨ i = 2 := by omega
  rcases this with rfl | rfl | rfl <;> exact ⟨_, rfl, isB_sl _⟩
section
variable (k : Nat) (c s : List UInt8) (v : V) (b : List UInt8) (hv : IsB v b) (fr un re fl : Int)
include hv
theorem c_ticket_look : callN DT (k + 9) n_ticket_look [tkV c s v fr un re fl] [] = some (lookV (lookR (goodNames c s) (goodTimes fr un re) (tkF fr un fl))) :=
  look_case k c s v b hv fr un re fl _ _ rfl rfl _ _ _ _ rfl rfl rfl rfl
theorem c_ticket_Bytes_bad (h : tkOk c s fr un re fl = false) : callN DT (k + 13) n_ticket_Bytes [tkV c s v fr un re fl] [] = some (.tup [.nils, .int .i64 200], []) := by
  obtain ⟨es, h1, h2, h3⟩ := lookR_some h
  have hl := c_ticket_look (k + 3) c s v b hv fr un re fl
  rw [h1] at hl
  simp only [lookV, joinV, joinO] at hl
  have l1 : DT.lend n_ticket_look = [true] := lend_of DT_fn fn_ticket_look
  have l2 : DT.lend n_ticket_number = [true] := lend_of DT_fn fn_ticket_number
  have hn := number_bad k es h2
  simp only [joinF] at hn
  refine call_fn (DT_fn _ _ fn_ticket_Bytes) (run_ret (s := ?_) ?_ ?_)
  rotate_left
  · simp only [tkV] at hl ⊢
    simp (maxSteps := 10000000) (disch := first | decide | omega | assumption | rfl | (simp only [List.length_set, List.length_append, List.length_take, List.length_drop, List.length_cons, List.length_nil]; omega)) only [go_sem, Nat.reduceAdd, Nat.reduceSub, Nat.reduceMul, Nat.reduceEqDiff, Nat.reduceLT, Nat.reduceLeDiff, Nat.reduceMod, Nat.reduceDiv, Nat.reduceBEq, Int.reduceLE, Int.reduceEq, Int.reduceLT, Int.reduceToNat, Int.reduceAdd, Int.reduceSub, Int.reduceNeg, reduceIte, reduceCtorEq, Int.reduceMul, d_ticket_Bytes, isB_len hv, isB_view hv, isB_deep hv, isB_hands hv, isB_ren hv, isB_width hv, isB_cells hv, isB_sto hv, isB_one hv, isB_at hv, l1, l2, hl, hn, xParts, xPartsD, setParts, List.cons_ne_nil, ofNs_ne, splices, spliceL, List.take_zero, List.take_nil, List.take_succ_cons, eqn]
    all_goals with_reducible rfl
  · simp (maxSteps := 10000000) (disch := first | decide | omega | assumption | rfl | (simp only [List.length_set, List.length_append, List.length_take, List.length_drop, List.length_cons, List.length_nil]; omega)) only [go_sem, Nat.reduceAdd, Nat.reduceSub, Nat.reduceMul, Nat.reduceEqDiff, Nat.reduceLT, Nat.reduceLeDiff, Nat.reduceMod, Nat.reduceDiv, Nat.reduceBEq, Int.reduceLE, Int.reduceEq, Int.reduceLT, Int.reduceToNat, Int.reduceAdd, Int.reduceSub, Int.reduceNeg, reduceIte, reduceCtorEq, Int.reduceMul, d_ticket_Bytes]
theorem c_ticket_Bytes_ok (h : tkOk c s fr un re fl = true) : callN DT (k + 13) n_ticket_Bytes [tkV c s v fr un re fl] [] = some (.tup [.hs 0 0 (tkB c s fr un re fl).length, .int .i64 0], [(0, .row (bytesV (tkB c s fr un re fl)) 1)]) := by
  have hl := c_ticket_look (k + 3) c s v b hv fr un re fl
  rw [lookR_none h] at hl
  simp only [lookV] at hl
  simp only [tkOk, goodNames, Bool.and_eq_true] at h
  have n1 := goodName_le h.1.1.1
  have n2 := goodName_le h.1.1.2
  have l1 : DT.lend n_ticket_look = [true] := lend_of DT_fn fn_ticket_look
  have l2 : DT.lend n_wire_Int = [true] := lend_of DT_fn fn_wire_Int
  have l3 : DT.lend n_ticket_value = [true] := lend_of DT_fn fn_ticket_value
  have hv6 := c_ticket_value DT DT_fn (k + 9) _ _ (allB6 c s (intB fr) (intB un) (intB re) (intB fl)) (by simp) (by simp) (chk6 _ _ _ _ _ _ (by simp only [intB_length]; omega))
  have hi := c_wire_Int DT DT_fn (k + 11)
  have r1 : (c.length ≤ roomBytes) = True := by simp only [roomBytes, eq_iff_iff, iff_true]; omega
  have r2 : (s.length ≤ roomBytes) = True := by simp only [roomBytes, eq_iff_iff, iff_true]; omega
  rw [← tkB] at hv6
  have i8 := intB_length
  refine call_fn (DT_fn _ _ fn_ticket_Bytes) (run_ret (s := ?_) ?_ ?_)
  rotate_left
  · simp only [tkV] at hl ⊢
    simp (maxSteps := 10000000) (disch := first | decide | omega | assumption | rfl | (simp only [List.length_set, List.length_append, List.length_take, List.length_drop, List.length_cons, List.length_nil]; omega)) only [go_sem, Nat.reduceAdd, Nat.reduceSub, Nat.reduceMul, Nat.reduceEqDiff, Nat.reduceLT, Nat.reduceLeDiff, Nat.reduceMod, Nat.reduceDiv, Nat.reduceBEq, Int.reduceLE, Int.reduceEq, Int.reduceLT, Int.reduceToNat, Int.reduceAdd, Int.reduceSub, Int.reduceNeg, reduceIte, reduceCtorEq, Int.reduceMul, d_ticket_Bytes, isB_len hv, isB_view hv, isB_deep hv, isB_hands hv, isB_ren hv, isB_width hv, isB_cells hv, isB_sto hv, isB_one hv, isB_at hv, l1, l2, l3, hl, hi, hv6, r1, r2, i8, intB_take, xParts, xPartsD, setParts, List.cons_ne_nil, ofNs_ne, splices, spliceL, List.take_zero, List.take_nil, List.take_succ_cons, eqn]
    all_goals with_reducible rfl
  · simp (maxSteps := 10000000) (disch := first | decide | omega | assumption | rfl | (simp only [List.length_set, List.length_append, List.length_take, List.length_drop, List.length_cons, List.length_nil]; omega)) only [go_sem, Nat.reduceAdd, Nat.reduceSub, Nat.reduceMul, Nat.reduceEqDiff, Nat.reduceLT, Nat.reduceLeDiff, Nat.reduceMod, Nat.reduceDiv, Nat.reduceBEq, Int.reduceLE, Int.reduceEq, Int.reduceLT, Int.reduceToNat, Int.reduceAdd, Int.reduceSub, Int.reduceNeg, reduceIte, reduceCtorEq, Int.reduceMul, d_ticket_Bytes]
end
end Go.Dm.T
set_option linter.unusedSimpArgs false
set_option linter.unusedVariables false
set_option linter.unusedSectionVars false
namespace Go.Dm.T
open Go.Dm
theorem mapM_bytes (l : List UInt8) : (bytesV l).mapM byteOf = some l := by
  induction l with
  | nil => rfl
  | cons a l ih =>
    have e : byteOf (.int .u8 (a.toNat : Int)) = some a := by simp [byteOf]
    rw [bytesV] at ih ⊢
    simp only [List.map_cons, List.mapM_cons, e, ih, Option.bind_eq_bind, Option.bind_some, Option.pure_def]
theorem c_base_SameBytes (n : Nat) (v w : V) (a b : List UInt8) (hv : IsB v a) (hw : IsB w b) : callN DT (n + 1) n_base_SameBytes [v, w] [] = some (.bool (a == b), []) := by
  refine call_fn (DT_fn _ _ fn_base_SameBytes) (run_ret (s := ?ss) ?hh ?kk)
  case hh =>
    simp (maxSteps := 10000000) (disch := first | decide | omega | assumption | rfl | (simp only [List.length_set, List.length_append, List.length_take, List.length_drop, List.length_cons, List.length_nil]; omega)) only [go_sem, Nat.reduceAdd, Nat.reduceSub, Nat.reduceMul, Nat.reduceEqDiff, Nat.reduceLT, Nat.reduceLeDiff, Nat.reduceMod, Nat.reduceDiv, Nat.reduceBEq, Int.reduceLE, Int.reduceEq, Int.reduceLT, Int.reduceToNat, Int.reduceAdd, Int.reduceSub, Int.reduceNeg, reduceIte, reduceCtorEq, Int.reduceMul, d_base_SameBytes, isB_len hv, isB_view hv, isB_deep hv, isB_hands hv, isB_ren hv, isB_width hv, isB_cells hv, isB_sto hv, isB_one hv, isB_at hv, isB_len hw, isB_view hw, isB_deep hw, isB_hands hw, isB_ren hw, isB_width hw, isB_cells hw, isB_sto hw, isB_one hw, isB_at hw, mapM_bytes]
    all_goals with_reducible rfl
  case kk =>
    simp (maxSteps := 10000000) (disch := first | decide | omega | assumption | rfl | (simp only [List.length_set, List.length_append, List.length_take, List.length_drop, List.length_cons, List.length_nil]; omega)) only [go_sem, Nat.reduceAdd, Nat.reduceSub, Nat.reduceMul, Nat.reduceEqDiff, Nat.reduceLT, Nat.reduceLeDiff, Nat.reduceMod, Nat.reduceDiv, Nat.reduceBEq, Int.reduceLE, Int.reduceEq, Int.reduceLT, Int.reduceToNat, Int.reduceAdd, Int.reduceSub, Int.reduceNeg, reduceIte, reduceCtorEq, Int.reduceMul, d_base_SameBytes]
theorem c_base_Bytes (k : Nat) (v : V) (l : List UInt8) (hv : IsB v l) (hl : l.length < 1000000000000) : callN DT (k + 1) n_base_Bytes [v] [] = some (ownV l, ownO l) := by
  by_cases h : l = []
  · subst h; simp only [ownV, ownO, if_true]; exact c_base_Bytes0 DT DT_fn k v hv
  · simp only [ownV, ownO, h, if_false]; exact c_base_Bytes1 DT DT_fn k v l hv hl h
theorem take_min {α : Type} (l : List α) (n : Nat) : (l.take (min l.length n)) = l.take n := by
  rcases Nat.le_total l.length n with h | h
  · rw [Nat.min_eq_left h, List.take_of_length_le (Nat.le_refl _), List.take_of_length_le h]
  · rw [Nat.min_eq_right h]
theorem min_int (a : Nat) (m : Nat) : (if (m : Int) < (a : Int) then (m : Int) else (a : Int)) = ((min a m : Nat) : Int) := by split <;> omega
section
variable (k : Nat) (c s : List UInt8) (v : V) (b : List UInt8) (hv : IsB v b) (fr un re fl : Int)
include hv
theorem c_law28_short : callN DT (k + 2) n_law28_short [tkV c s v fr un re fl] [] = some (tkV (c.take 60) (s.take 60) (ownV (b.take 40)) fr un re fl, ownO (b.take 40)) := by
  have e1 := min_int b.length 40
  have e2 := min_int c.length 60
  have e3 := min_int s.length 60
  simp only [Int.cast_ofNat_Int] at e1 e2 e3
  have n1 : min b.length 40 ≤ b.length := by omega
  have n2 : (min c.length 60 ≤ c.length) = True := by simp only [eq_iff_iff, iff_true]; omega
  have n3 : (min s.length 60 ≤ s.length) = True := by simp only [eq_iff_iff, iff_true]; omega
  have hs := fun g => isB_slc hv g 0 (min b.length 40) (by omega) n1
  have hcut := isB_cut hv 0 (min b.length 40)
  rw [List.drop_zero, take_min] at hcut
  have hb := c_base_Bytes k _ _ hcut (by rw [List.length_take]; omega)
  have l1 : DT.lend n_base_Bytes = [true] := lend_of DT_fn fn_base_Bytes
  generalize cutV v 0 (min b.length 40) = w at hs hcut hb
  generalize b.take 40 = m at hcut hb ⊢
  by_cases h : m = []
  · simp only [ownV, ownO, h, if_true] at hb ⊢
    refine call_fn (DT_fn _ _ fn_law28_short) (run_ret (s := ?_) ?_ ?_)
    rotate_left
    · simp only [tkV]
      simp (maxSteps := 10000000) (disch := first | decide | omega | assumption | rfl | (simp only [List.length_set, List.length_append, List.length_take, List.length_drop, List.length_cons, List.length_nil]; omega)) only [go_sem, Nat.reduceAdd, Nat.reduceSub, Nat.reduceMul, Nat.reduceEqDiff, Nat.reduceLT, Nat.reduceLeDiff, Nat.reduceMod, Nat.reduceDiv, Nat.reduceBEq, Int.reduceLE, Int.reduceEq, Int.reduceLT, Int.reduceToNat, Int.reduceAdd, Int.reduceSub, Int.reduceNeg, reduceIte, reduceCtorEq, Int.reduceMul, d_law28_short, isB_len hv, isB_view hv, isB_deep hv, isB_hands hv, isB_ren hv, isB_width hv, isB_cells hv, isB_sto hv, isB_one hv, isB_at hv, isB_len hcut, isB_view hcut, isB_deep hcut, isB_hands hcut, isB_ren hcut, isB_width hcut, isB_cells hcut, isB_sto hcut, isB_one hcut, isB_at hcut, l1, e1, e2, e3, n2, n3, hs, hb, Nat.zero_le, splices, spliceL, List.take_zero, List.take_nil, List.take_succ_cons, xParts, xPartsD, setParts, List.cons_ne_nil, ofNs_ne]
      all_goals with_reducible rfl
    · simp only [tkV]
      simp (maxSteps := 10000000) (disch := first | decide | omega | assumption | rfl | (simp only [List.length_set, List.length_append, List.length_take, List.length_drop, List.length_cons, List.length_nil]; omega)) only [go_sem, Nat.reduceAdd, Nat.reduceSub, Nat.reduceMul, Nat.reduceEqDiff, Nat.reduceLT, Nat.reduceLeDiff, Nat.reduceMod, Nat.reduceDiv, Nat.reduceBEq, Int.reduceLE, Int.reduceEq, Int.reduceLT, Int.reduceToNat, Int.reduceAdd, Int.reduceSub, Int.reduceNeg, reduceIte, reduceCtorEq, Int.reduceMul, d_law28_short, take_min]
  · simp only [ownV, ownO, h, if_false] at hb ⊢
    refine call_fn (DT_fn _ _ fn_law28_short) (run_ret (s := ?_) ?_ ?_)
    rotate_left
    · simp only [tkV]
      simp (maxSteps := 10000000) (disch := first | decide | omega | assumption | rfl | (simp only [List.length_set, List.length_append, List.length_take, List.length_drop, List.length_cons, List.length_nil]; omega)) only [go_sem, Nat.reduceAdd, Nat.reduceSub, Nat.reduceMul, Nat.reduceEqDiff, Nat.reduceLT, Nat.reduceLeDiff, Nat.reduceMod, Nat.reduceDiv, Nat.reduceBEq, Int.reduceLE, Int.reduceEq, Int.reduceLT, Int.reduceToNat, Int.reduceAdd, Int.reduceSub, Int.reduceNeg, reduceIte, reduceCtorEq, Int.reduceMul, d_law28_short, isB_len hv, isB_view hv, isB_deep hv, isB_hands hv, isB_ren hv, isB_width hv, isB_cells hv, isB_sto hv, isB_one hv, isB_at hv, isB_len hcut, isB_view hcut, isB_deep hcut, isB_hands hcut, isB_ren hcut, isB_width hcut, isB_cells hcut, isB_sto hcut, isB_one hcut, isB_at hcut, l1, e1, e2, e3, n2, n3, hs, hb, Nat.zero_le, splices, spliceL, List.take_zero, List.take_nil, List.take_succ_cons, xParts, xPartsD, setParts, List.cons_ne_nil, ofNs_ne]
      all_goals with_reducible rfl
    · simp only [tkV]
      simp (maxSteps := 10000000) (disch := first | decide | omega | assumption | rfl | (simp only [List.length_set, List.length_append, List.length_take, List.length_drop, List.length_cons, List.length_nil]; omega)) only [go_sem, Nat.reduceAdd, Nat.reduceSub, Nat.reduceMul, Nat.reduceEqDiff, Nat.reduceLT, Nat.reduceLeDiff, Nat.reduceMod, Nat.reduceDiv, Nat.reduceBEq, Int.reduceLE, Int.reduceEq, Int.reduceLT, Int.reduceToNat, Int.reduceAdd, Int.reduceSub, Int.reduceNeg, reduceIte, reduceCtorEq, Int.reduceMul, d_law28_short, take_min]
end
end Go.Dm.T
set_option linter.unusedSimpArgs false
set_option linter.unusedVariables false
set_option linter.unusedSectionVars false
namespace Go.Dm.T
open Go.Dm
section
variable (k : Nat) (c s : List UInt8) (v : V) (b : List UInt8) (hv : IsB v b) (fr un re fl now : Int)
include hv
theorem c_tgs_times1 (n : Nat) (x : Int) : callN DT (n + 1) n_tgs_times [.sl [.int .i64 x] 1] [] = some (.bool (goodTime x), []) := by
  have := c_tgs_times DT DT_fn n [x] (by simp)
  simpa [intsV] using this
theorem c_Renewed_bad (h : (tkOk c s fr un re fl && goodTime now) = false) : callN DT (k + 14) n_tgs_Renewed [tkV c s v fr un re fl, .int .i64 now] [] = some (.tup [noTicket, .int .i64 41], []) := by
  have l1 : DT.lend n_ticket_Bytes = [true] := lend_of DT_fn fn_ticket_Bytes
  have l2 : DT.lend n_tgs_times = [true] := lend_of DT_fn fn_tgs_times
  have ht := c_tgs_times1 v b hv (k + 12) now
  have z1 : ((0 : Int) != 0) = false := rfl
  have z2 : ((200 : Int) != 0) = true := rfl
  cases hk : tkOk c s fr un re fl with
  | false =>
    have hb := c_ticket_Bytes_bad k c s v b hv fr un re fl hk
    simp only [tkV] at hb
    refine call_fn (DT_fn _ _ fn_tgs_Renewed) (run_ret (s := ?_) ?_ ?_)
    rotate_left
    · simp only [tkV]
      simp (maxSteps := 10000000) (disch := first | decide | omega | assumption | rfl | (simp only [List.length_set, List.length_append, List.length_take, List.length_drop, List.length_cons, List.length_nil]; omega)) only [go_sem, Nat.reduceAdd, Nat.reduceSub, Nat.reduceMul, Nat.reduceEqDiff, Nat.reduceLT, Nat.reduceLeDiff, Nat.reduceMod, Nat.reduceDiv, Nat.reduceBEq, Int.reduceLE, Int.reduceEq, Int.reduceLT, Int.reduceToNat, Int.reduceAdd, Int.reduceSub, Int.reduceNeg, reduceIte, reduceCtorEq, Int.reduceMul, d_tgs_Renewed, isB_len hv, isB_view hv, isB_deep hv, isB_hands hv, isB_ren hv, isB_width hv, isB_cells hv, isB_sto hv, isB_one hv, isB_at hv, l1, l2, hb, z1, z2, Nat.zero_le, splices, spliceL, List.take_zero, List.take_nil, List.take_succ_cons, xParts, xPartsD, setParts, List.cons_ne_nil, ofNs_ne]
      all_goals with_reducible rfl
    · simp only [noTicket]
      simp (maxSteps := 10000000) (disch := first | decide | omega | assumption | rfl | (simp only [List.length_set, List.length_append, List.length_take, List.length_drop, List.length_cons, List.length_nil]; omega)) only [go_sem, Nat.reduceAdd, Nat.reduceSub, Nat.reduceMul, Nat.reduceEqDiff, Nat.reduceLT, Nat.reduceLeDiff, Nat.reduceMod, Nat.reduceDiv, Nat.reduceBEq, Int.reduceLE, Int.reduceEq, Int.reduceLT, Int.reduceToNat, Int.reduceAdd, Int.reduceSub, Int.reduceNeg, reduceIte, reduceCtorEq, Int.reduceMul, d_tgs_Renewed]
  | true =>
    have hb := c_ticket_Bytes_ok k c s v b hv fr un re fl hk
    have hg : goodTime now = false := by simpa [hk] using h
    rw [hg] at ht
    simp only [tkV] at hb
    refine call_fn (DT_fn _ _ fn_tgs_Renewed) (run_ret (s := ?_) ?_ ?_)
    rotate_left
    · simp only [tkV]
      simp (maxSteps := 10000000) (disch := first | decide | omega | assumption | rfl | (simp only [List.length_set, List.length_append, List.length_take, List.length_drop, List.length_cons, List.length_nil]; omega)) only [go_sem, Nat.reduceAdd, Nat.reduceSub, Nat.reduceMul, Nat.reduceEqDiff, Nat.reduceLT, Nat.reduceLeDiff, Nat.reduceMod, Nat.reduceDiv, Nat.reduceBEq, Int.reduceLE, Int.reduceEq, Int.reduceLT, Int.reduceToNat, Int.reduceAdd, Int.reduceSub, Int.reduceNeg, reduceIte, reduceCtorEq, Int.reduceMul, d_tgs_Renewed, isB_len hv, isB_view hv, isB_deep hv, isB_hands hv, isB_ren hv, isB_width hv, isB_cells hv, isB_sto hv, isB_one hv, isB_at hv, l1, l2, hb, ht, z1, z2, Nat.zero_le, splices, spliceL, List.take_zero, List.take_nil, List.take_succ_cons, xParts, xPartsD, setParts, List.cons_ne_nil, ofNs_ne]
      all_goals with_reducible rfl
    · simp only [noTicket]
      simp (maxSteps := 10000000) (disch := first | decide | omega | assumption | rfl | (simp only [List.length_set, List.length_append, List.length_take, List.length_drop, List.length_cons, List.length_nil]; omega)) only [go_sem, Nat.reduceAdd, Nat.reduceSub, Nat.reduceMul, Nat.reduceEqDiff, Nat.reduceLT, Nat.reduceLeDiff, Nat.reduceMod, Nat.reduceDiv, Nat.reduceBEq, Int.reduceLE, Int.reduceEq, Int.reduceLT, Int.reduceToNat, Int.reduceAdd, Int.reduceSub, Int.reduceNeg, reduceIte, reduceCtorEq, Int.reduceMul, d_tgs_Renewed]
variable (hk : tkOk c s fr un re fl = true) (hg : goodTime now = true)
include hk hg
theorem c_Renewed_pol (h : (bitsV .and .i64 fl 4 == 0) = true) : callN DT (k + 14) n_tgs_Renewed [tkV c s v fr un re fl, .int .i64 now] [] = some (.tup [noTicket, .int .i64 12], []) := by
  have l1 : DT.lend n_ticket_Bytes = [true] := lend_of DT_fn fn_ticket_Bytes
  have l2 : DT.lend n_tgs_times = [true] := lend_of DT_fn fn_tgs_times
  have ht := c_tgs_times1 v b hv (k + 12) now
  have z1 : ((0 : Int) != 0) = false := rfl
  have hb := c_ticket_Bytes_ok k c s v b hv fr un re fl hk
  rw [hg] at ht
  simp only [tkV] at hb
  refine call_fn (DT_fn _ _ fn_tgs_Renewed) (run_ret (s := ?_) ?_ ?_)
  rotate_left
  · simp only [tkV]
    simp (maxSteps := 10000000) (disch := first | decide | omega | assumption | rfl | (simp only [List.length_set, List.length_append, List.length_take, List.length_drop, List.length_cons, List.length_nil]; omega)) only [go_sem, Nat.reduceAdd, Nat.reduceSub, Nat.reduceMul, Nat.reduceEqDiff, Nat.reduceLT, Nat.reduceLeDiff, Nat.reduceMod, Nat.reduceDiv, Nat.reduceBEq, Int.reduceLE, Int.reduceEq, Int.reduceLT, Int.reduceToNat, Int.reduceAdd, Int.reduceSub, Int.reduceNeg, reduceIte, reduceCtorEq, Int.reduceMul, d_tgs_Renewed, isB_len hv, isB_view hv, isB_deep hv, isB_hands hv, isB_ren hv, isB_width hv, isB_cells hv, isB_sto hv, isB_one hv, isB_at hv, l1, l2, hb, ht, z1, h, Nat.zero_le, splices, spliceL, List.take_zero, List.take_nil, List.take_succ_cons, xParts, xPartsD, setParts, List.cons_ne_nil, ofNs_ne]
    all_goals with_reducible rfl
  · simp only [noTicket]
    simp (maxSteps := 10000000) (disch := first | decide | omega | assumption | rfl | (simp only [List.length_set, List.length_append, List.length_take, List.length_drop, List.length_cons, List.length_nil]; omega)) only [go_sem, Nat.reduceAdd, Nat.reduceSub, Nat.reduceMul, Nat.reduceEqDiff, Nat.reduceLT, Nat.reduceLeDiff, Nat.reduceMod, Nat.reduceDiv, Nat.reduceBEq, Int.reduceLE, Int.reduceEq, Int.reduceLT, Int.reduceToNat, Int.reduceAdd, Int.reduceSub, Int.reduceNeg, reduceIte, reduceCtorEq, Int.reduceMul, d_tgs_Renewed]
theorem c_Renewed_exp (h : (bitsV .and .i64 fl 4 == 0) = false) (h2 : re ≤ now) : callN DT (k + 14) n_tgs_Renewed [tkV c s v fr un re fl, .int .i64 now] [] = some (.tup [noTicket, .int .i64 32], []) := by
  have l1 : DT.lend n_ticket_Bytes = [true] := lend_of DT_fn fn_ticket_Bytes
  have l2 : DT.lend n_tgs_times = [true] := lend_of DT_fn fn_tgs_times
  have ht := c_tgs_times1 v b hv (k + 12) now
  have z1 : ((0 : Int) != 0) = false := rfl
  have hb := c_ticket_Bytes_ok k c s v b hv fr un re fl hk
  rw [hg] at ht
  simp only [tkV] at hb
  have h2 : (re ≤ now) = True := by simp only [eq_iff_iff, iff_true]; exact h2
  refine call_fn (DT_fn _ _ fn_tgs_Renewed) (run_ret (s := ?_) ?_ ?_)
  rotate_left
  · simp only [tkV]
    simp (maxSteps := 10000000) (disch := first | decide | omega | assumption | rfl | (simp only [List.length_set, List.length_append, List.length_take, List.length_drop, List.length_cons, List.length_nil]; omega)) only [go_sem, Nat.reduceAdd, Nat.reduceSub, Nat.reduceMul, Nat.reduceEqDiff, Nat.reduceLT, Nat.reduceLeDiff, Nat.reduceMod, Nat.reduceDiv, Nat.reduceBEq, Int.reduceLE, Int.reduceEq, Int.reduceLT, Int.reduceToNat, Int.reduceAdd, Int.reduceSub, Int.reduceNeg, reduceIte, reduceCtorEq, Int.reduceMul, d_tgs_Renewed, isB_len hv, isB_view hv, isB_deep hv, isB_hands hv, isB_ren hv, isB_width hv, isB_cells hv, isB_sto hv, isB_one hv, isB_at hv, l1, l2, hb, ht, z1, h, h2, Nat.zero_le, splices, spliceL, List.take_zero, List.take_nil, List.take_succ_cons, xParts, xPartsD, setParts, List.cons_ne_nil, ofNs_ne]
    all_goals with_reducible rfl
  · simp only [noTicket]
    simp (maxSteps := 10000000) (disch := first | decide | omega | assumption | rfl | (simp only [List.length_set, List.length_append, List.length_take, List.length_drop, List.length_cons, List.length_nil]; omega)) only [go_sem, Nat.reduceAdd, Nat.reduceSub, Nat.reduceMul, Nat.reduceEqDiff, Nat.reduceLT, Nat.reduceLeDiff, Nat.reduceMod, Nat.reduceDiv, Nat.reduceBEq, Int.reduceLE, Int.reduceEq, Int.reduceLT, Int.reduceToNat, Int.reduceAdd, Int.reduceSub, Int.reduceNeg, reduceIte, reduceCtorEq, Int.reduceMul, d_tgs_Renewed]
omit hv hg in
theorem tkOk_times : 0 ≤ fr ∧ fr ≤ 1099511627776 ∧ 0 ≤ un ∧ un ≤ 1099511627776 ∧ 0 ≤ re ∧ re ≤ 1099511627776 ∧ fr < un := by
  simp only [tkOk, goodTimes, goodTime, tkF, Bool.and_eq_true, decide_eq_true_eq, Bool.not_eq_true', decide_eq_false_iff_not] at hk
  omega
theorem c_Renewed_ok (h : (bitsV .and .i64 fl 4 == 0) = false) (h2 : now < re) : callN DT (k + 14) n_tgs_Renewed [tkV c s v fr un re fl, .int .i64 now] [] = some (.tup [tkV c s .nils now (min (now + (un - fr)) re) re fl, .int .i64 0], []) := by
  have l1 : DT.lend n_ticket_Bytes = [true] := lend_of DT_fn fn_ticket_Bytes
  have l2 : DT.lend n_tgs_times = [true] := lend_of DT_fn fn_tgs_times
  have ht := c_tgs_times1 v b hv (k + 12) now
  have z1 : ((0 : Int) != 0) = false := rfl
  have hb := c_ticket_Bytes_ok k c s v b hv fr un re fl hk
  have hr := tkOk_times c s fr un re fl hk
  have hg' := hg
  simp only [goodTime, Bool.and_eq_true, decide_eq_true_eq] at hg'
  rw [hg] at ht
  simp only [tkV] at hb
  have h2 : (re ≤ now) = False := by simp only [eq_iff_iff, iff_false]; omega
  have w1 : IntKind.i64.wrap (un - fr) = un - fr := wrapi (by omega) (by omega)
  have w2 : IntKind.i64.wrap (now + (un - fr)) = now + (un - fr) := wrapi (by omega) (by omega)
  have m1 : (if re < now + (un - fr) then re else now + (un - fr)) = min (now + (un - fr)) re := by split <;> omega
  refine call_fn (DT_fn _ _ fn_tgs_Renewed) (run_ret (s := ?_) ?_ ?_)
  rotate_left
  · simp only [tkV]
    simp (maxSteps := 10000000) (disch := first | decide | omega | assumption | rfl | (simp only [List.length_set, List.length_append, List.length_take, List.length_drop, List.length_cons, List.length_nil]; omega)) only [go_sem, Nat.reduceAdd, Nat.reduceSub, Nat.reduceMul, Nat.reduceEqDiff, Nat.reduceLT, Nat.reduceLeDiff, Nat.reduceMod, Nat.reduceDiv, Nat.reduceBEq, Int.reduceLE, Int.reduceEq, Int.reduceLT, Int.reduceToNat, Int.reduceAdd, Int.reduceSub, Int.reduceNeg, reduceIte, reduceCtorEq, Int.reduceMul, d_tgs_Renewed, isB_len hv, isB_view hv, isB_deep hv, isB_hands hv, isB_ren hv, isB_width hv, isB_cells hv, isB_sto hv, isB_one hv, isB_at hv, l1, l2, hb, ht, z1, h, h2, w1, w2, m1, Nat.zero_le, splices, spliceL, List.take_zero, List.take_nil, List.take_succ_cons, xParts, xPartsD, setParts, List.cons_ne_nil, ofNs_ne]
    all_goals with_reducible rfl
  · simp only [tkV]
    simp (maxSteps := 10000000) (disch := first | decide | omega | assumption | rfl | (simp only [List.length_set, List.length_append, List.length_take, List.length_drop, List.length_cons, List.length_nil]; omega)) only [go_sem, Nat.reduceAdd, Nat.reduceSub, Nat.reduceMul, Nat.reduceEqDiff, Nat.reduceLT, Nat.reduceLeDiff, Nat.reduceMod, Nat.reduceDiv, Nat.reduceBEq, Int.reduceLE, Int.reduceEq, Int.reduceLT, Int.reduceToNat, Int.reduceAdd, Int.reduceSub, Int.reduceNeg, reduceIte, reduceCtorEq, Int.reduceMul, d_tgs_Renewed]
end
/-- What renewing comes to. -/
def renT (c s : List UInt8) (fr un re fl now : Int) : V := if !(tkOk c s fr un re fl && goodTime now) then noTicket else if bitsV .and .i64 fl 4 == 0 then noTicket else if re ≤ now then noTicket else tkV c s .nils now (min (now + (un - fr)) re) re fl
def renC (c s : List UInt8) (fr un re fl now : Int) : Int := if !(tkOk c s fr un re fl && goodTime now) then 41 else if bitsV .and .i64 fl 4 == 0 then 12 else if re ≤ now then 32 else 0
theorem c_tgs_Renewed (k : Nat) (c s : List UInt8) (v : V) (b : List UInt8) (hv : IsB v b) (fr un re fl now : Int) : callN DT (k + 14) n_tgs_Renewed [tkV c s v fr un re fl, .int .i64 now] [] = some (.tup [renT c s fr un re fl now, .int .i64 (renC c s fr un re fl now)], []) := by
  unfold renT renC
  cases h0 : (tkOk c s fr un re fl && goodTime now) with
  | false => exact c_Renewed_bad k c s v b hv fr un re fl now h0
  | true =>
    simp only [Bool.and_eq_true] at h0
    simp only [Bool.not_true, Bool.false_eq_true, if_false]
    cases h : (bitsV .and .i64 fl 4 == 0) with
    | true => simp only [if_true]; exact c_Renewed_pol k c s v b hv fr un re fl now h0.1 h0.2 h
    | false =>
      simp only [Bool.false_eq_true, if_false]
      by_cases h2 : re ≤ now
      · simp only [h2, if_true]; exact c_Renewed_exp k c s v b hv fr un re fl now h0.1 h0.2 h h2
      · simp only [h2, if_false]; exact c_Renewed_ok k c s v b hv fr un re fl now h0.1 h0.2 h (by omega)
end Go.Dm.T
