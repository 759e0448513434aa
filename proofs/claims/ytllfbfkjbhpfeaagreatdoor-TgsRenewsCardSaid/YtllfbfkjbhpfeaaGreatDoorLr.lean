/- TgsRenews: for every input the law returns true, and its arguments read as they did (the card's tie: the listed package-level variables as the program's text lays them). -/
import Derived.Test.YtllfbfkjbhpfeaaGreatDoorCe
import Derived.Test.YtllfbfkjbhpfeaaGreatDoorGa
set_option linter.unusedSimpArgs false
set_option linter.unusedVariables false
set_option linter.unusedSectionVars false
set_option linter.unusedSimpArgs false
set_option linter.unusedVariables false
set_option linter.unusedSectionVars false
namespace Go.Dm.T
open Go.Dm
theorem same_no (k : Nat) : callN DT (k + 3) n_law28_same [noTicket, noTicket] [] = some (.bool true, []) :=
  callN_le DT (by omega) _ _ _ _ (show callN DT 3 n_law28_same [noTicket, noTicket] [] = some (.bool true, []) by kernel_rfl)
theorem renew_bad {c s : List UInt8} {fr un re fl now : Int} (h : renC c s fr un re fl now ≠ 0) : renT c s fr un re fl now = noTicket := by
  unfold renT renC at *
  split at h
  · rename_i h'; rw [if_pos h']
  · rename_i h'; rw [if_neg h']
    split at h
    · rename_i h2; rw [if_pos h2]
    · rename_i h2; rw [if_neg h2]
      split at h
      · rename_i h3; rw [if_pos h3]
      · exact absurd rfl h
theorem renew_good {c s : List UInt8} {fr un re fl now : Int} (h : renC c s fr un re fl now = 0) : tkOk c s fr un re fl = true ∧ goodTime now = true ∧ (bitsV .and .i64 fl 4 == 0) = false ∧ now < re ∧ renT c s fr un re fl now = tkV c s .nils now (min (now + (un - fr)) re) re fl := by
  unfold renT renC at *
  split at h
  · cases h
  · rename_i h'; rw [if_neg h']
    split at h
    · cases h
    · rename_i h2; rw [if_neg h2]
      split at h
      · cases h
      · rename_i h3; rw [if_neg h3]
        simp only [Bool.not_eq_true', Bool.not_eq_false, Bool.and_eq_true] at h'
        exact ⟨h'.1, h'.2, by simpa using h2, by omega, rfl⟩
section
variable (c s : List UInt8) (v : V) (b : List UInt8) (hv : IsB v b) (fr un re fl now later : Int)
theorem ownV_cases (l : List UInt8) : (ownV l = .nils ∧ ownO l = [] ∧ l = []) ∨ (ownV l = .hs 0 0 l.length ∧ ownO l = [(0, .row (bytesV l) 1)]) := by
  unfold ownV ownO
  by_cases h : l = []
  · left; simp [h]
  · right; simp [h]
include hv
theorem c_TgsRenews_bad (h : renC (c.take 60) (s.take 60) fr un re fl now ≠ 0) :
    callN DT 126 n_law28_TgsRenews [tkV c s v fr un re fl, .int .i64 now, .int .i64 later] [] = some (.bool true, []) := by
  have l1 : DT.lend n_law28_works = [] := lend_of DT_fn fn_law28_works
  have l2 : DT.lend n_law28_short = [true] := lend_of DT_fn fn_law28_short
  have l3 : DT.lend n_tgs_Renewed = [true, true] := lend_of DT_fn fn_tgs_Renewed
  have l4 : DT.lend n_law28_same = [true, true] := lend_of DT_fn fn_law28_same
  have hs := c_law28_short 123 c s v b hv fr un re fl
  have hsame := same_no 122
  have ht := renew_bad h
  have h : (renC (c.take 60) (s.take 60) fr un re fl now != 0) = true := by simpa using h
  rcases ownV_cases (b.take 40) with ⟨h1, h2, h3⟩ | ⟨h1, h2⟩
  · have hr := c_tgs_Renewed 111 (c.take 60) (s.take 60) .nils [] isB_nil fr un re fl now
    rw [h1, h2] at hs
    rw [ht] at hr
    simp only [tkV, noTicket] at hs hr hsame
    generalize renC (c.take 60) (s.take 60) fr un re fl now = code at *
    refine call_fn (DT_fn _ _ fn_law28_TgsRenews) (run_ret (s := ?_) ?_ ?_)
    rotate_left
    · simp only [tkV]
      simp (maxSteps := 10000000) (disch := first | decide | omega | assumption | rfl | (simp only [List.length_set, List.length_append, List.length_take, List.length_drop, List.length_cons, List.length_nil]; omega)) only [go_sem, Nat.reduceAdd, Nat.reduceSub, Nat.reduceMul, Nat.reduceEqDiff, Nat.reduceLT, Nat.reduceLeDiff, Nat.reduceMod, Nat.reduceDiv, Nat.reduceBEq, Int.reduceLE, Int.reduceEq, Int.reduceLT, Int.reduceToNat, Int.reduceAdd, Int.reduceSub, Int.reduceNeg, reduceIte, reduceCtorEq, Int.reduceMul, d_law28_TgsRenews, isB_len hv, isB_view hv, isB_deep hv, isB_hands hv, isB_ren hv, isB_width hv, isB_cells hv, isB_sto hv, isB_one hv, isB_at hv, l1, l2, l3, l4, c_works, hs, hr, hsame, h, Nat.zero_le, splices, spliceL, List.take_zero, List.take_nil, List.take_succ_cons, xParts, xPartsD, setParts, List.cons_ne_nil, ofNs_ne]
      all_goals with_reducible rfl
    · simp (maxSteps := 10000000) (disch := first | decide | omega | assumption | rfl | (simp only [List.length_set, List.length_append, List.length_take, List.length_drop, List.length_cons, List.length_nil]; omega)) only [go_sem, Nat.reduceAdd, Nat.reduceSub, Nat.reduceMul, Nat.reduceEqDiff, Nat.reduceLT, Nat.reduceLeDiff, Nat.reduceMod, Nat.reduceDiv, Nat.reduceBEq, Int.reduceLE, Int.reduceEq, Int.reduceLT, Int.reduceToNat, Int.reduceAdd, Int.reduceSub, Int.reduceNeg, reduceIte, reduceCtorEq, Int.reduceMul, d_law28_TgsRenews]
  · have hr := c_tgs_Renewed 111 (c.take 60) (s.take 60) (.sl (bytesV (b.take 40)) 1) (b.take 40) (isB_sl _) fr un re fl now
    rw [h1, h2] at hs
    rw [ht] at hr
    generalize b.take 40 = m at *
    simp only [tkV, noTicket] at hs hr hsame
    generalize renC (c.take 60) (s.take 60) fr un re fl now = code at *
    refine call_fn (DT_fn _ _ fn_law28_TgsRenews) (run_ret (s := ?_) ?_ ?_)
    rotate_left
    · simp only [tkV]
      simp (maxSteps := 10000000) (disch := first | decide | omega | assumption | rfl | (simp only [List.length_set, List.length_append, List.length_take, List.length_drop, List.length_cons, List.length_nil]; omega)) only [go_sem, Nat.reduceAdd, Nat.reduceSub, Nat.reduceMul, Nat.reduceEqDiff, Nat.reduceLT, Nat.reduceLeDiff, Nat.reduceMod, Nat.reduceDiv, Nat.reduceBEq, Int.reduceLE, Int.reduceEq, Int.reduceLT, Int.reduceToNat, Int.reduceAdd, Int.reduceSub, Int.reduceNeg, reduceIte, reduceCtorEq, Int.reduceMul, d_law28_TgsRenews, isB_len hv, isB_view hv, isB_deep hv, isB_hands hv, isB_ren hv, isB_width hv, isB_cells hv, isB_sto hv, isB_one hv, isB_at hv, l1, l2, l3, l4, c_works, hs, hr, hsame, h, Nat.zero_le, splices, spliceL, List.take_zero, List.take_nil, List.take_succ_cons, xParts, xPartsD, setParts, List.cons_ne_nil, ofNs_ne]
      all_goals with_reducible rfl
    · simp (maxSteps := 10000000) (disch := first | decide | omega | assumption | rfl | (simp only [List.length_set, List.length_append, List.length_take, List.length_drop, List.length_cons, List.length_nil]; omega)) only [go_sem, Nat.reduceAdd, Nat.reduceSub, Nat.reduceMul, Nat.reduceEqDiff, Nat.reduceLT, Nat.reduceLeDiff, Nat.reduceMod, Nat.reduceDiv, Nat.reduceBEq, Int.reduceLE, Int.reduceEq, Int.reduceLT, Int.reduceToNat, Int.reduceAdd, Int.reduceSub, Int.reduceNeg, reduceIte, reduceCtorEq, Int.reduceMul, d_law28_TgsRenews]
theorem again_code (h : renC c s fr un re fl now = 0) (x : Int) (hx : now ≤ x) : renC c s now (min (now + (un - fr)) re) re fl x = (if re ≤ x then (if goodTime x then 32 else 41) else 0) ∧
    (x < re → renT c s now (min (now + (un - fr)) re) re fl x = tkV c s .nils x (min (x + (min (now + (un - fr)) re - now)) re) re fl) ∧ (goodTime x = false → 1099511627776 < x) ∧ (goodTime x = false → re ≤ x) := by
  obtain ⟨h1, h2, h3, h4, h5⟩ := renew_good h
  have hr := tkOk_times c s fr un re fl h1
  have hok : tkOk c s now (min (now + (un - fr)) re) re fl = true := by
    have hn : goodNames c s = true := by simp only [tkOk, Bool.and_eq_true] at h1; exact h1.1.1
    simp only [tkOk, hn, goodTimes, goodTime, tkF, Bool.and_eq_true, decide_eq_true_eq, Bool.not_eq_true', decide_eq_false_iff_not, true_and] at h1 h2 ⊢
    omega
  have hg : goodTime x = false → 1099511627776 < x := by
    simp only [goodTime, Bool.and_eq_true, decide_eq_true_eq] at h2
    simp only [goodTime, Bool.and_eq_false_iff, decide_eq_false_iff_not]
    omega
  refine ⟨?_, ?_, hg, fun h => by have := hg h; omega⟩
  · unfold renC
    rw [hok, Bool.true_and, h3]
    cases hgx : goodTime x with
    | true => simp
    | false => have := hg hgx; simp [show re ≤ x by omega]
  · intro hlt
    unfold renT
    have hgx : goodTime x = true := by
      cases hgx : goodTime x with
      | true => rfl
      | false => have := hg hgx; omega
    rw [hok, hgx, h3]
    simp [show ¬ re ≤ x by omega]
set_option maxHeartbeats 4000000 in
theorem c_TgsRenews_good (h : renC (c.take 60) (s.take 60) fr un re fl now = 0) :
    callN DT 126 n_law28_TgsRenews [tkV c s v fr un re fl, .int .i64 now, .int .i64 later] [] = some (.bool true, []) := by
  have l1 : DT.lend n_law28_works = [] := lend_of DT_fn fn_law28_works
  have l2 : DT.lend n_law28_short = [true] := lend_of DT_fn fn_law28_short
  have l3 : DT.lend n_tgs_Renewed = [true, true] := lend_of DT_fn fn_tgs_Renewed
  have l4 : DT.lend n_base_Among = [true, true] := lend_of DT_fn fn_base_Among
  have hs := c_law28_short 123 c s v b hv fr un re fl
  obtain ⟨g1, g2, g3, g4, g5⟩ := renew_good h
  have hrg := tkOk_times _ _ fr un re fl g1
  have g2' := g2
  simp only [goodTime, Bool.and_eq_true, decide_eq_true_eq] at g2'
  have ha := c_base_Among DT DT_fn 124 later 1000 (by omega) (by omega)
  have ha1 : 0 ≤ later % 18446744073709551616 % 1000 := Int.emod_nonneg _ (by decide)
  have ha2 : later % 18446744073709551616 % 1000 < 1000 := Int.emod_lt_of_pos _ (by decide)
  generalize later % 18446744073709551616 % 1000 = more at ha ha1 ha2
  have w1 : IntKind.i64.wrap (now + more) = now + more := wrapi (by omega) (by omega)
  have w2 : IntKind.i64.wrap (un - fr) = un - fr := wrapi (by omega) (by omega)
  have w3 : IntKind.i64.wrap (min (now + (un - fr)) re - now) = min (now + (un - fr)) re - now := wrapi (by omega) (by omega)
  have d1 : decide (min (now + (un - fr)) re ≤ now) = false := by simp; omega
  have d2 : decide (re < min (now + (un - fr)) re) = false := by simp; omega
  have d3 : decide (un - fr < min (now + (un - fr)) re - now) = false := by simp; omega
  obtain ⟨b1, b2, b3, b4⟩ := again_code (c.take 60) (s.take 60) v b hv fr un re fl now h (now + more) (by omega)
  have hr2 := c_tgs_Renewed 111 (c.take 60) (s.take 60) .nils [] isB_nil now (min (now + (un - fr)) re) re fl (now + more)
  have key : ∀ (x : V) (m : List UInt8) (os : Objs), ((x = .nils ∧ os = []) ∨ (x = .hs 0 0 m.length ∧ os = [(0, .row (bytesV m) 1)])) →
      callN DT 125 n_law28_short [tkV c s v fr un re fl] [] = some (tkV (c.take 60) (s.take 60) x fr un re fl, os) → callN DT 126 n_law28_TgsRenews [tkV c s v fr un re fl, .int .i64 now, .int .i64 later] [] = some (.bool true, []) := by
    intro x m os hx hs
    have hr0 : ∀ (w : V) (m : List UInt8), IsB w m → callN DT 125 n_tgs_Renewed [tkV (c.take 60) (s.take 60) w fr un re fl, .int .i64 now] [] = some (.tup [tkV (c.take 60) (s.take 60) .nils now (min (now + (un - fr)) re) re fl, .int .i64 0], []) := fun w m hw => by
      rw [c_tgs_Renewed 111 (c.take 60) (s.take 60) w m hw fr un re fl now, g5, h]
    have hr1 := hr0 .nils [] isB_nil
    have hr3 := hr0 (.sl (bytesV m) 1) m (isB_sl m)
    have z0 : ((0 : Int) != 0) = false := rfl
    have z00 : ((0 : Int) == 0) = true := rfl
    have z1 : ((41 : Int) == 32) = false := rfl
    have d5 : decide (min (now + more + (min (now + (un - fr)) re - now)) re ≤ re) = true := by simp; omega
    generalize min (now + (un - fr)) re = un2 at *
    simp only [tkV] at hs hr1 hr2 hr3 b2
    rw [b1] at hr2
    by_cases hle : re ≤ now + more
    · have d4 : decide (re ≤ now + more) = true := by simp; omega
      have hz : renT (c.take 60) (s.take 60) now un2 re fl (now + more) = noTicket := by
        refine renew_bad ?_
        rw [b1, if_pos hle]
        split <;> decide
      rw [if_pos hle, hz] at hr2
      simp only [noTicket] at hr2
      cases hgx : goodTime (now + more) with
      | true =>
        rw [hgx, if_pos rfl] at hr2
        rcases hx with ⟨rfl, rfl⟩ | ⟨rfl, rfl⟩
        all_goals
          refine call_fn (DT_fn _ _ fn_law28_TgsRenews) (run_ret (s := ?_) ?_ ?_)
          rotate_left
          · simp only [tkV]
            simp (maxSteps := 10000000) (disch := first | decide | omega | assumption | rfl | (simp only [List.length_set, List.length_append, List.length_take, List.length_drop, List.length_cons, List.length_nil]; omega)) only [go_sem, Nat.reduceAdd, Nat.reduceSub, Nat.reduceMul, Nat.reduceEqDiff, Nat.reduceLT, Nat.reduceLeDiff, Nat.reduceMod, Nat.reduceDiv, Nat.reduceBEq, Int.reduceLE, Int.reduceEq, Int.reduceLT, Int.reduceToNat, Int.reduceAdd, Int.reduceSub, Int.reduceNeg, reduceIte, reduceCtorEq, Int.reduceMul, d_law28_TgsRenews, isB_len hv, isB_view hv, isB_deep hv, isB_hands hv, isB_ren hv, isB_width hv, isB_cells hv, isB_sto hv, isB_one hv, isB_at hv, l1, l2, l3, l4, c_works, hs, hr1, hr2, hr3, ha, w1, w2, w3, d1, d2, d3, d4, z0, z1, Nat.zero_le, splices, spliceL, List.take_zero, List.take_nil, List.take_succ_cons, xParts, xPartsD, setParts, List.cons_ne_nil, ofNs_ne]
            all_goals with_reducible rfl
          · simp (maxSteps := 10000000) (disch := first | decide | omega | assumption | rfl | (simp only [List.length_set, List.length_append, List.length_take, List.length_drop, List.length_cons, List.length_nil]; omega)) only [go_sem, Nat.reduceAdd, Nat.reduceSub, Nat.reduceMul, Nat.reduceEqDiff, Nat.reduceLT, Nat.reduceLeDiff, Nat.reduceMod, Nat.reduceDiv, Nat.reduceBEq, Int.reduceLE, Int.reduceEq, Int.reduceLT, Int.reduceToNat, Int.reduceAdd, Int.reduceSub, Int.reduceNeg, reduceIte, reduceCtorEq, Int.reduceMul, d_law28_TgsRenews]
      | false =>
        have d7 : decide (1099511627776 < now + more) = true := decide_eq_true (b3 hgx)
        rw [hgx, if_neg (by decide)] at hr2
        rcases hx with ⟨rfl, rfl⟩ | ⟨rfl, rfl⟩
        all_goals
          refine call_fn (DT_fn _ _ fn_law28_TgsRenews) (run_ret (s := ?_) ?_ ?_)
          rotate_left
          · simp only [tkV]
            simp (maxSteps := 10000000) (disch := first | decide | omega | assumption | rfl | (simp only [List.length_set, List.length_append, List.length_take, List.length_drop, List.length_cons, List.length_nil]; omega)) only [go_sem, Nat.reduceAdd, Nat.reduceSub, Nat.reduceMul, Nat.reduceEqDiff, Nat.reduceLT, Nat.reduceLeDiff, Nat.reduceMod, Nat.reduceDiv, Nat.reduceBEq, Int.reduceLE, Int.reduceEq, Int.reduceLT, Int.reduceToNat, Int.reduceAdd, Int.reduceSub, Int.reduceNeg, reduceIte, reduceCtorEq, Int.reduceMul, d_law28_TgsRenews, isB_len hv, isB_view hv, isB_deep hv, isB_hands hv, isB_ren hv, isB_width hv, isB_cells hv, isB_sto hv, isB_one hv, isB_at hv, l1, l2, l3, l4, c_works, hs, hr1, hr2, hr3, ha, w1, w2, w3, d1, d2, d3, d4, d7, z0, z1, Nat.zero_le, splices, spliceL, List.take_zero, List.take_nil, List.take_succ_cons, xParts, xPartsD, setParts, List.cons_ne_nil, ofNs_ne]
            all_goals with_reducible rfl
          · simp (maxSteps := 10000000) (disch := first | decide | omega | assumption | rfl | (simp only [List.length_set, List.length_append, List.length_take, List.length_drop, List.length_cons, List.length_nil]; omega)) only [go_sem, Nat.reduceAdd, Nat.reduceSub, Nat.reduceMul, Nat.reduceEqDiff, Nat.reduceLT, Nat.reduceLeDiff, Nat.reduceMod, Nat.reduceDiv, Nat.reduceBEq, Int.reduceLE, Int.reduceEq, Int.reduceLT, Int.reduceToNat, Int.reduceAdd, Int.reduceSub, Int.reduceNeg, reduceIte, reduceCtorEq, Int.reduceMul, d_law28_TgsRenews]
    · have d4 : decide (re ≤ now + more) = false := by simp; omega
      rw [if_neg hle, b2 (by omega)] at hr2
      rcases hx with ⟨rfl, rfl⟩ | ⟨rfl, rfl⟩
      all_goals
        refine call_fn (DT_fn _ _ fn_law28_TgsRenews) (run_ret (s := ?_) ?_ ?_)
        rotate_left
        · simp only [tkV]
          simp (maxSteps := 10000000) (disch := first | decide | omega | assumption | rfl | (simp only [List.length_set, List.length_append, List.length_take, List.length_drop, List.length_cons, List.length_nil]; omega)) only [go_sem, Nat.reduceAdd, Nat.reduceSub, Nat.reduceMul, Nat.reduceEqDiff, Nat.reduceLT, Nat.reduceLeDiff, Nat.reduceMod, Nat.reduceDiv, Nat.reduceBEq, Int.reduceLE, Int.reduceEq, Int.reduceLT, Int.reduceToNat, Int.reduceAdd, Int.reduceSub, Int.reduceNeg, reduceIte, reduceCtorEq, Int.reduceMul, d_law28_TgsRenews, isB_len hv, isB_view hv, isB_deep hv, isB_hands hv, isB_ren hv, isB_width hv, isB_cells hv, isB_sto hv, isB_one hv, isB_at hv, l1, l2, l3, l4, c_works, hs, hr1, hr2, hr3, ha, w1, w2, w3, d1, d2, d3, d4, d5, z0, z00, z1, Nat.zero_le, splices, spliceL, List.take_zero, List.take_nil, List.take_succ_cons, xParts, xPartsD, setParts, List.cons_ne_nil, ofNs_ne]
          all_goals with_reducible rfl
        · simp (maxSteps := 10000000) (disch := first | decide | omega | assumption | rfl | (simp only [List.length_set, List.length_append, List.length_take, List.length_drop, List.length_cons, List.length_nil]; omega)) only [go_sem, Nat.reduceAdd, Nat.reduceSub, Nat.reduceMul, Nat.reduceEqDiff, Nat.reduceLT, Nat.reduceLeDiff, Nat.reduceMod, Nat.reduceDiv, Nat.reduceBEq, Int.reduceLE, Int.reduceEq, Int.reduceLT, Int.reduceToNat, Int.reduceAdd, Int.reduceSub, Int.reduceNeg, reduceIte, reduceCtorEq, Int.reduceMul, d_law28_TgsRenews]
  rcases ownV_cases (b.take 40) with ⟨h1, h2, h3⟩ | ⟨h1, h2⟩
  · rw [h1, h2] at hs
    exact key .nils [] [] (.inl ⟨rfl, rfl⟩) hs
  · rw [h1, h2] at hs
    exact key _ (b.take 40) _ (.inr ⟨rfl, rfl⟩) hs
theorem c_TgsRenews : callN DT 126 n_law28_TgsRenews [tkV c s v fr un re fl, .int .i64 now, .int .i64 later] [] = some (.bool true, []) := by
  by_cases h : renC (c.take 60) (s.take 60) fr un re fl now = 0
  · exact c_TgsRenews_good c s v b hv fr un re fl now later h
  · exact c_TgsRenews_bad c s v b hv fr un re fl now later h
end
end Go.Dm.T
set_option linter.unusedSimpArgs false
set_option linter.unusedVariables false
set_option maxRecDepth 100000
namespace Go.Dm.T
open Go.Dm Go.Proofs
theorem ofTicket {n : Nat} {xs : List V} (h : shapeC Tryz.prog (n + 3) 24 xs) : ∃ c s v b fr un re fl, V.agg xs = tkV c s v fr un re fl ∧ IsB v b ∧ b.length ≤ maxLen ∧ c.length ≤ maxLen ∧ s.length ≤ maxLen := by
  obtain ⟨x1, r1, rfl, h1, x2, r2, rfl, h2, x3, r3, rfl, h3, x4, r4, rfl, h4, x5, r5, rfl, h5, x6, r6, rfl, h6, x7, r7, rfl, h7, rfl⟩ := shapeC_struct (ts := [9, 9, 22, 3, 3, 3, 3]) Tryz.underlying24 (by kernel_rfl) h
  obtain ⟨c, rfl, hc⟩ := shapeC_str Tryz.underlying9 h1
  obtain ⟨s, rfl, hs⟩ := shapeC_str Tryz.underlying9 h2
  obtain ⟨v, b, rfl, hv, hb⟩ := shapeC_bytes Tryz.underlying22 Tryz.underlying5 (by kernel_rfl) h3
  obtain ⟨fr, rfl, _⟩ := shapeC_int Tryz.underlying3 h4
  obtain ⟨un, rfl, _⟩ := shapeC_int Tryz.underlying3 h5
  obtain ⟨re, rfl, _⟩ := shapeC_int Tryz.underlying3 h6
  obtain ⟨fl, rfl, _⟩ := shapeC_int Tryz.underlying3 h7
  exact ⟨c, s, v, b, fr, un, re, fl, rfl, hv, hb, hc, hs⟩
theorem a_TgsRenews (xs : List V) (h : Shapes Tryz.prog 8 Tryz.f6.params.toList xs) : callN DT 126 6 xs [] = some (.bool true, []) := by
  have hp : Tryz.f6.params.toList = [24, 3, 3] := by kernel_rfl
  rw [hp] at h
  obtain ⟨x, r, rfl, hx, h⟩ := h.cons_inv
  obtain ⟨y, r, rfl, hy, h⟩ := h.cons_inv
  obtain ⟨z, r, rfl, hz, h⟩ := h.cons_inv
  obtain rfl := h.nil_inv
  obtain ⟨cs, rfl, hx2⟩ := shapeV_agg (n := 8) (t := 24) (by kernel_rfl) hx
  obtain ⟨c, s, v, b, fr, un, re, fl, e, hv, _⟩ := ofTicket (n := 5) hx2
  rw [e]
  obtain ⟨n, rfl, _⟩ := shape_int Tryz.underlying3 hy
  obtain ⟨m, rfl, _⟩ := shape_int Tryz.underlying3 hz
  exact c_TgsRenews c s v b hv fr un re fl n m
end Go.Dm.T
set_option linter.unusedSimpArgs false
set_option linter.unusedVariables false
namespace Go.Proofs.YtllfbfkjbhpfeaaGreatDoor.tgsRenews
open Go.ChangeShapes Go.WideShapes Go.ChangeAt Go.RowKit Go.Dm
theorem shapes_ok : ∀ t ∈ Tryz.f6.params.toList, flatB Tryz.prog 8 t = true ∧ Tryz.prog.readableRec t = true ∧ t < Tryz.prog.types.size := by
  have h : (Tryz.f6.params.toList.all fun t => flatB Tryz.prog 8 t && Tryz.prog.readableRec t && decide (t < Tryz.prog.types.size)) = true := by kernel_rfl
  intro t ht
  have := List.all_eq_true.1 h t ht
  simp only [Bool.and_eq_true, decide_eq_true_eq] at this
  exact ⟨this.1.1, this.1.2, this.2⟩
theorem spec_ok (H : Type) (ds : List (DataW H)) (h : ds.length = Tryz.f6.params.toList.length) : Rows.tgsRenewsSpec.fn H ds = { results := [.lit (.bool true)], args := ds } := by
  have e : Tryz.f6.params.toList.length = 3 := by kernel_rfl
  rw [e] at h
  match ds, h with
  | [d0, d1, d2], _ => rfl
theorem laid_met (os : Os) : laidMetH Tryz.prog Rows.tgsRenewsRow.laid ((laidWorld os).forCall (fun _ _ => 0) ⟨#[], #[.agg #[.string ⟨#[]⟩, .string ⟨#[]⟩, .slice none 0 0, .int .i64 0, .int .i64 0, .int .i64 0, .int .i64 0], .int .i64 0, .int .i64 0], []⟩).memory :=
  laidMetH_of_parts (laidMet_of_run' 8 (by kernel_rfl) (by kernel_rfl)) (by kernel_rfl)
theorem reads (os : Os) {H : Type} (enc : TypeId × Value → H) : ∃ places, DataW.whole enc Tryz.prog ((laidWorld os).forCall (fun _ _ => 0) ⟨#[], #[.agg #[.string ⟨#[]⟩, .string ⟨#[]⟩, .slice none 0 0, .int .i64 0, .int .i64 0, .int .i64 0, .int .i64 0], .int .i64 0, .int .i64 0], []⟩).memory Tryz.f6.params.toList Rows.tgsRenewsSpec.vars false (#[.agg #[.string ⟨#[]⟩, .string ⟨#[]⟩, .slice none 0 0, .int .i64 0, .int .i64 0, .int .i64 0, .int .i64 0], .int .i64 0, .int .i64 0] : Array Value).toList 8 = some ([.agg [.lit (.string []), .lit (.string []), .nil, .lit (.int .i64 0), .lit (.int .i64 0), .lit (.int .i64 0), .lit (.int .i64 0)], .lit (.int .i64 0), .lit (.int .i64 0)], [], places) :=
  ⟨[], by kernel_rfl⟩

set_option maxRecDepth 100000 in
theorem lifted (os : Os) (started : os.Started) (H : Type) (enc : TypeId × Value → H) (F : Stop.Interp) :
    ReturnsInHanded {} Tryz.checked os 6 .any ((OpenSpec.ofChange Rows.tgsRenewsSpec).preRow enc Tryz.prog Tryz.f6 Rows.tgsRenewsRow.domain false Rows.tgsRenewsRow.laid) (((OpenSpec.ofChange Rows.tgsRenewsSpec).at F).post enc Tryz.prog Tryz.f6 false true false false) := by
  obtain ⟨places, hx⟩ := reads os enc
  refine returnsInHanded_of_row (C := Tryz.checked) (s := OpenSpec.ofChange Rows.tgsRenewsSpec) own started (by kernel_rfl) Tryz.func6
    (witness_row_at (enc := enc) (C := Tryz.checked) false (laidWorld os) #[.agg #[.string ⟨#[]⟩, .string ⟨#[]⟩, .slice none 0 0, .int .i64 0, .int .i64 0, .int .i64 0, .int .i64 0], .int .i64 0, .int .i64 0] rfl (by kernel_rfl) (by kernel_rfl) (by kernel_rfl)
      (OpenSpec.preRow_of_cond 8 hx (by kernel_rfl) (fun k hk => by cases hk) (by kernel_rfl) (laid_met os))) ?_
  intro W base args ds gs before hval hW _ _ _ hL _ _
  exact contract_gen 6 Tryz.f6 Rows.tgsRenewsSpec 126 8 4 Tryz.underlying4 (by kernel_rfl) rfl spec_ok shapes_ok ⟨Tryz.f6, Tryz.func6, by kernel_rfl, by kernel_rfl⟩ (fun xs hs => T.a_TgsRenews xs hs) H enc W base args ds gs before hval hW hL

theorem said : Rows.TgsRenewsSaid :=
  OpenClaim.holds_of_cond 6 Tryz.f6 rfl rfl rfl rfl rfl rfl rfl ⟨rfl, rfl, rfl, rfl, rfl⟩ rfl rfl rfl rfl rfl (by kernel_rfl) Tryz.func6 (by kernel_rfl)
    (of_decide_eq_true (by kernel_rfl)) (by unfold Func.isWrapper; first | (rw [if_pos (by decide +kernel)]; kernel_rfl) | (rw [if_neg (by decide +kernel)]; exact ⟨rfl, rfl⟩))
    (fun os started H enc _ F => by rw [OpenClaim.pre_eq_preRow]; exact lifted os started H enc F)

/-- No parameter wants a stand-in; the program's own looks are off. -/
theorem plain (f : FuncId) (fn : Func) (hf : Tryz.pinned.checked.prog.funcNamed "seneschal/seneschallaw28.TgsRenews" = some f) (hfn : Tryz.pinned.checked.prog.funcs[f]? = some fn) :
    true = Tryz.pinned.checked.prog.looks [] ∧ ∀ (j : Nat) t, fn.params[j]? = some t → Tryz.pinned.checked.prog.wantsStandIn t = false := by
  obtain rfl : f = 6 := Option.some.inj ((show Tryz.prog.funcNamed "seneschal/seneschallaw28.TgsRenews" = some 6 by kernel_rfl).symm.trans hf) |>.symm
  obtain rfl : fn = Tryz.f6 := (Option.some.inj (Tryz.func6.symm.trans hfn)).symm
  refine ⟨by kernel_rfl, fun j t ht => ?_⟩
  have h : (Tryz.f6.params.toList.all fun t => !Tryz.prog.wantsStandIn t) = true := by kernel_rfl
  have := List.all_eq_true.1 h t (by rw [Array.mem_toList_iff]; exact Array.mem_of_getElem? ht)
  exact (show ∀ b : Bool, (!b) = true → b = false by decide) _ this
end Go.Proofs.YtllfbfkjbhpfeaaGreatDoor.tgsRenews
namespace Go.Proofs.YtllfbfkjbhpfeaaGreatDoor
open tgsRenews
/-- THE CARD: TgsRenews. -/
theorem tgsRenews_holds : Rows.TgsRenewsCardSaid :=
  Claim7.holds_tied_plain_at .later [] _ _ _ _ tgsRenews.said (fun _ h => by cases h) (by kernel_rfl) (fun _ h => by cases h) tgsRenews_row_tie rfl ⟨rfl, rfl⟩ (by kernel_rfl) rfl tgsRenews.plain (by kernel_rfl)
#print axioms tgsRenews_holds
end Go.Proofs.YtllfbfkjbhpfeaaGreatDoor
