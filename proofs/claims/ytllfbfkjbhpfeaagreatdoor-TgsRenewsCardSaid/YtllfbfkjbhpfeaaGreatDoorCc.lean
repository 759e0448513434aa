/- Contracts of the wire's functions, and of names and times. -/
import Derived.Test.YtllfbfkjbhpfeaaGreatDoorCa
set_option linter.unusedSimpArgs false
set_option linter.unusedVariables false
set_option linter.unusedSectionVars false
set_option linter.unusedSimpArgs false
set_option linter.unusedVariables false
set_option linter.unusedSectionVars false
namespace Go.Dm.T
open Go.Dm
def strsV (l : List (List UInt8)) : List V := l.map .str
def intsV (l : List Int) : List V := l.map (.int .i64)
theorem strsV_length (l : List (List UInt8)) : (strsV l).length = l.length := by simp [strsV]
theorem intsV_length (l : List Int) : (intsV l).length = l.length := by simp [intsV]
theorem strsV_at {l : List (List UInt8)} {i : Nat} (h : i < l.length) : (strsV l)[i]? = some (.str (l.getD i [])) := by
  rw [strsV, List.getElem?_map, getD_some [] h]; rfl
theorem intsV_at {l : List Int} {i : Nat} (h : i < l.length) : (intsV l)[i]? = some (.int .i64 (l.getD i 0)) := by
  rw [intsV, List.getElem?_map, getD_some 0 h]; rfl
theorem strs_at {l : List (List UInt8)} {i : Nat} (g : Nat → Option Obj) (h : i < l.length) : iaddrV g none 1 i (.sl (strsV l) 1) = some (.pt [.str (l.getD i [])]) := by
  simp only [iaddrV, and_self, if_true, strsV_at h, V.cells]
theorem ints_at {l : List Int} {i : Nat} (g : Nat → Option Obj) (h : i < l.length) : iaddrV g none 1 i (.sl (intsV l) 1) = some (.pt [.int .i64 (l.getD i 0)]) := by
  simp only [iaddrV, and_self, if_true, intsV_at h, V.cells]
def partsD (i : Nat) (x : V) (k : List Nat) : Option (List (Nat × V) × List Nat) → Option (List (Nat × V) × List Nat)
  | some (xs, ks) => some ((i, x) :: xs, k ++ ks)
  | none => none
def partsC (g : Nat → Option Obj) (i : Nat) (r : List (Nat × V)) : Option (V × List Nat) → Option (List (Nat × V) × List Nat)
  | some (x, k) => partsD i x k (deepParts g r)
  | none => none
theorem xParts (g : Nat → Option Obj) : (deepParts g [] = some ([], [])) ∧ (∀ i v r, deepParts g ((i, v) :: r) = partsC g i r (deep g 6 v)) ∧ (∀ i r, partsC g i r none = none) ∧ (∀ i r x k, partsC g i r (some (x, k)) = partsD i x k (deepParts g r)) ∧ (∀ i x k xs ks, partsD i x k (some (xs, ks)) = some ((i, x) :: xs, k ++ ks)) := by
  refine ⟨rfl, fun i v r => ?_, fun _ _ => rfl, fun _ _ _ _ => rfl, fun _ _ _ _ _ => rfl⟩
  simp only [deepParts, partsC, partsD]
  split <;> rename_i h <;> simp only [h]
  split <;> rename_i h2 <;> simp only [h2]
theorem xPartsD (i : Nat) (x : V) (k : List Nat) (xs : List (Nat × V)) (ks : List Nat) : partsD i x k (some (xs, ks)) = some ((i, x) :: xs, k ++ ks) := rfl
theorem ofNs_ne {α : Type} (a : α) (l : List α) : (a :: l = []) = False := by simp
/-- Where the first is that is not as it should be. -/
def firstBad {α : Type} (p : α → Bool) (l : List α) : Nat := (l.takeWhile p).length
theorem firstBad_le {α : Type} (p : α → Bool) (l : List α) : firstBad p l ≤ l.length := (List.takeWhile_sublist p).length_le
theorem firstBad_lt {α : Type} (p : α → Bool) (d : α) : ∀ (l : List α) (i : Nat), i < firstBad p l → p (l.getD i d) = true
  | [], i, h => by simp [firstBad] at h
  | a :: l, i, h => by
    unfold firstBad at h
    rw [List.takeWhile_cons] at h
    split at h
    · rename_i ha
      cases i with
      | zero => simpa using ha
      | succ i => simpa using firstBad_lt p d l i (by simpa [firstBad] using h)
    · simp at h
theorem firstBad_at {α : Type} (p : α → Bool) (d : α) : ∀ (l : List α), firstBad p l < l.length → p (l.getD (firstBad p l) d) = false
  | [], h => by simp [firstBad] at h
  | a :: l, h => by
    unfold firstBad at h ⊢
    rw [List.takeWhile_cons] at h ⊢
    split at h
    · rename_i ha
      rw [if_pos ha]
      have := firstBad_at p d l (by simpa [firstBad] using h)
      simpa [firstBad] using this
    · rename_i ha
      rw [if_neg ha]
      simpa using ha
theorem firstBad_all {α : Type} (p : α → Bool) (l : List α) : firstBad p l = l.length ↔ l.all p = true := by
  induction l with
  | nil => simp [firstBad]
  | cons a l ih =>
    unfold firstBad at ih ⊢
    rw [List.takeWhile_cons]
    by_cases ha : p a = true
    · simp [ha]; rw [ih]; simp
    · simp [ha]
variable (D : DProg) (hD : ∀ f F, fnT f = some F → D.fn f = some F)
include hD
def goodName (s : List UInt8) : Bool := !(s == []) && decide ((s.length : Int) ≤ 32)
def goodTime (n : Int) : Bool := decide (0 ≤ n) && decide (n ≤ 1099511627776)
def badV (what : List UInt8) : V := .iface t_ticket_bad (.agg [.str what])
def namesC (l : List (List UInt8)) (i : Nat) : St := ⟨envOf 21 [(5, .sl (strsV l) 1), (6, .int .i64 l.length), (7, .int .i64 i)], [], 0, 0⟩
theorem names_round (n : Nat) (l : List (List UInt8)) (i : Nat) (hi : i < l.length) (hl : l.length < 1000000) (hg : goodName (l.getD i []) = true) :
    round (exec (callN D n) D.lend D.gl l_ticket_names_0) (canon [5, 6, 7]) (namesC l i) = some (namesC l (i + 1)) := by
  have a1 : ((i : Int) < (l.length : Int)) = True := by simp; omega
  simp only [goodName, Bool.and_eq_true, Bool.not_eq_true', decide_eq_true_eq] at hg
  have a2 : (32 < ((l.getD i []).length : Int)) = False := by simp only [eq_iff_iff, iff_false]; omega
  have a3 := hg.1
  simp (maxSteps := 10000000) (disch := first | decide | omega | assumption | rfl | (simp only [List.length_set, List.length_append, List.length_take, List.length_drop, List.length_cons, List.length_nil]; omega)) only [go_sem, Nat.reduceAdd, Nat.reduceSub, Nat.reduceMul, Nat.reduceEqDiff, Nat.reduceLT, Nat.reduceLeDiff, Nat.reduceMod, Nat.reduceDiv, Nat.reduceBEq, Int.reduceLE, Int.reduceEq, Int.reduceLT, Int.reduceToNat, Int.reduceAdd, Int.reduceSub, Int.reduceNeg, reduceIte, reduceCtorEq, Int.reduceMul, l_ticket_names_0, namesC, a1, a2, a3, strs_at]
  all_goals rfl
theorem names_loop (n : Nat) (l : List (List UInt8)) (hl : l.length < 1000000) (h : l.all goodName = true) :
    fromHead (callN D n) D.lend D.gl [5, 6, 7] l_ticket_names_0 (some (namesC l 0)) = some (.exit 0, ⟨envOf 21 [(5, .sl (strsV l) 1), (6, .int .i64 l.length), (7, .int .i64 l.length), (8, .bool false)], [], 1, 0⟩) := by
  have hb := (firstBad_all goodName l).2 h
  refine x_loop (fun i => namesC l i) l.length (by simp) (by simp [loopFuel]; omega) (fun i hi => names_round D hD n l i hi hl (firstBad_lt goodName [] l i (by omega))) ?_
  simp (maxSteps := 10000000) (disch := first | decide | omega | assumption | rfl | (simp only [List.length_set, List.length_append, List.length_take, List.length_drop, List.length_cons, List.length_nil]; omega)) only [go_sem, Nat.reduceAdd, Nat.reduceSub, Nat.reduceMul, Nat.reduceEqDiff, Nat.reduceLT, Nat.reduceLeDiff, Nat.reduceMod, Nat.reduceDiv, Nat.reduceBEq, Int.reduceLE, Int.reduceEq, Int.reduceLT, Int.reduceToNat, Int.reduceAdd, Int.reduceSub, Int.reduceNeg, reduceIte, reduceCtorEq, Int.reduceMul, l_ticket_names_0, namesC]
  all_goals rfl
theorem names_bad (n : Nat) (l : List (List UInt8)) (hl : l.length < 1000000) (h : l.all goodName = false) :
    ∃ s', fromHead (callN D n) D.lend D.gl [5, 6, 7] l_ticket_names_0 (some (namesC l 0)) = some (.ret, s') ∧ s'.env.getD 2 .undef = badV [110, 97, 109, 101] ∧ s'.objs = [] := by
  have hb : firstBad goodName l < l.length := Nat.lt_of_le_of_ne (firstBad_le _ _) fun e => by rw [(firstBad_all goodName l).1 e] at h; cases h
  have key : ∃ s', exec (callN D n) D.lend D.gl l_ticket_names_0 (namesC l (firstBad goodName l)) = some (.ret, s') ∧ s'.env.getD 2 .undef = badV [110, 97, 109, 101] ∧ s'.objs = [] := by
    have hg := firstBad_at goodName [] l hb
    generalize firstBad goodName l = i at hb hg ⊢
    have a1 : ((i : Int) < (l.length : Int)) = True := by simp; omega
    by_cases h0 : (l.getD i [] == []) = true
    · refine ⟨?s, ?h1, ?h2, ?h3⟩
      case h1 =>
        simp (maxSteps := 10000000) (disch := first | decide | omega | assumption | rfl | (simp only [List.length_set, List.length_append, List.length_take, List.length_drop, List.length_cons, List.length_nil]; omega)) only [go_sem, Nat.reduceAdd, Nat.reduceSub, Nat.reduceMul, Nat.reduceEqDiff, Nat.reduceLT, Nat.reduceLeDiff, Nat.reduceMod, Nat.reduceDiv, Nat.reduceBEq, Int.reduceLE, Int.reduceEq, Int.reduceLT, Int.reduceToNat, Int.reduceAdd, Int.reduceSub, Int.reduceNeg, reduceIte, reduceCtorEq, Int.reduceMul, l_ticket_names_0, namesC, a1, h0, strs_at, splices, spliceL, List.take_zero, List.take_nil, List.take_succ_cons]
        all_goals with_reducible rfl
      case h2 => simp (maxSteps := 10000000) (disch := first | decide | omega | assumption | rfl | (simp only [List.length_set, List.length_append, List.length_take, List.length_drop, List.length_cons, List.length_nil]; omega)) only [go_sem, Nat.reduceAdd, Nat.reduceSub, Nat.reduceMul, Nat.reduceEqDiff, Nat.reduceLT, Nat.reduceLeDiff, Nat.reduceMod, Nat.reduceDiv, Nat.reduceBEq, Int.reduceLE, Int.reduceEq, Int.reduceLT, Int.reduceToNat, Int.reduceAdd, Int.reduceSub, Int.reduceNeg, reduceIte, reduceCtorEq, Int.reduceMul, badV]
      case h3 => rfl
    · have h0' : (l.getD i [] == []) = false := by simpa using h0
      have a2 : (32 < ((l.getD i []).length : Int)) = True := by
        simp only [goodName, h0', Bool.not_false, Bool.true_and, decide_eq_false_iff_not] at hg
        simp only [eq_iff_iff, iff_true]; omega
      refine ⟨?s2, ?h1, ?h2, ?h3⟩
      case h1 =>
        simp (maxSteps := 10000000) (disch := first | decide | omega | assumption | rfl | (simp only [List.length_set, List.length_append, List.length_take, List.length_drop, List.length_cons, List.length_nil]; omega)) only [go_sem, Nat.reduceAdd, Nat.reduceSub, Nat.reduceMul, Nat.reduceEqDiff, Nat.reduceLT, Nat.reduceLeDiff, Nat.reduceMod, Nat.reduceDiv, Nat.reduceBEq, Int.reduceLE, Int.reduceEq, Int.reduceLT, Int.reduceToNat, Int.reduceAdd, Int.reduceSub, Int.reduceNeg, reduceIte, reduceCtorEq, Int.reduceMul, l_ticket_names_0, namesC, a1, a2, h0', strs_at, splices, spliceL, List.take_zero, List.take_nil, List.take_succ_cons]
        all_goals with_reducible rfl
      case h2 => simp (maxSteps := 10000000) (disch := first | decide | omega | assumption | rfl | (simp only [List.length_set, List.length_append, List.length_take, List.length_drop, List.length_cons, List.length_nil]; omega)) only [go_sem, Nat.reduceAdd, Nat.reduceSub, Nat.reduceMul, Nat.reduceEqDiff, Nat.reduceLT, Nat.reduceLeDiff, Nat.reduceMod, Nat.reduceDiv, Nat.reduceBEq, Int.reduceLE, Int.reduceEq, Int.reduceLT, Int.reduceToNat, Int.reduceAdd, Int.reduceSub, Int.reduceNeg, reduceIte, reduceCtorEq, Int.reduceMul, badV]
      case h3 => rfl
  obtain ⟨s', h1, h2⟩ := key
  exact ⟨s', x_loop (fun i => namesC l i) (firstBad goodName l) (by simp) (by simp [loopFuel]; omega) (fun i hi => names_round D hD n l i (by omega) hl (firstBad_lt goodName [] l i hi)) h1, h2⟩
theorem c_ticket_names (n : Nat) (l : List (List UInt8)) (hl : l.length < 1000000) :
    callN D (n + 1) n_ticket_names [.sl (strsV l) 1] [] = some (if l.all goodName then .nili else badV [110, 97, 109, 101], []) := by
  by_cases h : l.all goodName = true
  · rw [if_pos h]
    have hlp := names_loop D hD n l hl h
    refine call_fn (hD _ _ fn_ticket_names) (run_ret (s := ?ss) ?hh ?kk)
    case hh =>
      simp (maxSteps := 10000000) (disch := first | decide | omega | assumption | rfl | (simp only [List.length_set, List.length_append, List.length_take, List.length_drop, List.length_cons, List.length_nil]; omega)) only [go_sem, Nat.reduceAdd, Nat.reduceSub, Nat.reduceMul, Nat.reduceEqDiff, Nat.reduceLT, Nat.reduceLeDiff, Nat.reduceMod, Nat.reduceDiv, Nat.reduceBEq, Int.reduceLE, Int.reduceEq, Int.reduceLT, Int.reduceToNat, Int.reduceAdd, Int.reduceSub, Int.reduceNeg, reduceIte, reduceCtorEq, Int.reduceMul, namesC] at hlp
      simp (maxSteps := 10000000) (disch := first | decide | omega | assumption | rfl | (simp only [List.length_set, List.length_append, List.length_take, List.length_drop, List.length_cons, List.length_nil]; omega)) only [go_sem, Nat.reduceAdd, Nat.reduceSub, Nat.reduceMul, Nat.reduceEqDiff, Nat.reduceLT, Nat.reduceLeDiff, Nat.reduceMod, Nat.reduceDiv, Nat.reduceBEq, Int.reduceLE, Int.reduceEq, Int.reduceLT, Int.reduceToNat, Int.reduceAdd, Int.reduceSub, Int.reduceNeg, reduceIte, reduceCtorEq, Int.reduceMul, d_ticket_names, hlp, strsV_length]
      all_goals with_reducible rfl
    case kk =>
      simp (maxSteps := 10000000) (disch := first | decide | omega | assumption | rfl | (simp only [List.length_set, List.length_append, List.length_take, List.length_drop, List.length_cons, List.length_nil]; omega)) only [go_sem, Nat.reduceAdd, Nat.reduceSub, Nat.reduceMul, Nat.reduceEqDiff, Nat.reduceLT, Nat.reduceLeDiff, Nat.reduceMod, Nat.reduceDiv, Nat.reduceBEq, Int.reduceLE, Int.reduceEq, Int.reduceLT, Int.reduceToNat, Int.reduceAdd, Int.reduceSub, Int.reduceNeg, reduceIte, reduceCtorEq, Int.reduceMul, d_ticket_names]
  · rw [if_neg h]
    obtain ⟨s', h1, h2, h3⟩ := names_bad D hD n l hl (by simpa using h)
    refine call_fn (hD _ _ fn_ticket_names) (run_ret (s := ?s2) ?hh ?kk)
    case hh =>
      simp (maxSteps := 10000000) (disch := first | decide | omega | assumption | rfl | (simp only [List.length_set, List.length_append, List.length_take, List.length_drop, List.length_cons, List.length_nil]; omega)) only [go_sem, Nat.reduceAdd, Nat.reduceSub, Nat.reduceMul, Nat.reduceEqDiff, Nat.reduceLT, Nat.reduceLeDiff, Nat.reduceMod, Nat.reduceDiv, Nat.reduceBEq, Int.reduceLE, Int.reduceEq, Int.reduceLT, Int.reduceToNat, Int.reduceAdd, Int.reduceSub, Int.reduceNeg, reduceIte, reduceCtorEq, Int.reduceMul, namesC] at h1
      simp (maxSteps := 10000000) (disch := first | decide | omega | assumption | rfl | (simp only [List.length_set, List.length_append, List.length_take, List.length_drop, List.length_cons, List.length_nil]; omega)) only [go_sem, Nat.reduceAdd, Nat.reduceSub, Nat.reduceMul, Nat.reduceEqDiff, Nat.reduceLT, Nat.reduceLeDiff, Nat.reduceMod, Nat.reduceDiv, Nat.reduceBEq, Int.reduceLE, Int.reduceEq, Int.reduceLT, Int.reduceToNat, Int.reduceAdd, Int.reduceSub, Int.reduceNeg, reduceIte, reduceCtorEq, Int.reduceMul, d_ticket_names, h1, strsV_length]
      all_goals with_reducible rfl
    case kk =>
      simp (maxSteps := 10000000) (disch := first | decide | omega | assumption | rfl | (simp only [List.length_set, List.length_append, List.length_take, List.length_drop, List.length_cons, List.length_nil]; omega)) only [go_sem, Nat.reduceAdd, Nat.reduceSub, Nat.reduceMul, Nat.reduceEqDiff, Nat.reduceLT, Nat.reduceLeDiff, Nat.reduceMod, Nat.reduceDiv, Nat.reduceBEq, Int.reduceLE, Int.reduceEq, Int.reduceLT, Int.reduceToNat, Int.reduceAdd, Int.reduceSub, Int.reduceNeg, reduceIte, reduceCtorEq, Int.reduceMul, d_ticket_names, h2, h3, badV]
def tkTimesC (l : List Int) (i : Nat) : St := ⟨envOf 20 [(5, .sl (intsV l) 1), (6, .int .i64 l.length), (7, .int .i64 i)], [], 0, 0⟩
theorem tkTimes_round (n : Nat) (l : List Int) (i : Nat) (hi : i < l.length) (hl : l.length < 1000000) (hg : goodTime (l.getD i 0) = true) :
    round (exec (callN D n) D.lend D.gl l_ticket_times_0) (canon [5, 6, 7]) (tkTimesC l i) = some (tkTimesC l (i + 1)) := by
  have a1 : ((i : Int) < (l.length : Int)) = True := by simp; omega
  simp only [goodTime, Bool.and_eq_true, decide_eq_true_eq] at hg
  have a2 : (1099511627776 < l.getD i 0) = False := by simp only [eq_iff_iff, iff_false]; omega
  have a3 : (l.getD i 0 < 0) = False := by simp only [eq_iff_iff, iff_false]; omega
  simp (maxSteps := 10000000) (disch := first | decide | omega | assumption | rfl | (simp only [List.length_set, List.length_append, List.length_take, List.length_drop, List.length_cons, List.length_nil]; omega)) only [go_sem, Nat.reduceAdd, Nat.reduceSub, Nat.reduceMul, Nat.reduceEqDiff, Nat.reduceLT, Nat.reduceLeDiff, Nat.reduceMod, Nat.reduceDiv, Nat.reduceBEq, Int.reduceLE, Int.reduceEq, Int.reduceLT, Int.reduceToNat, Int.reduceAdd, Int.reduceSub, Int.reduceNeg, reduceIte, reduceCtorEq, Int.reduceMul, l_ticket_times_0, tkTimesC, a1, a2, a3, ints_at]
  all_goals rfl
theorem tkTimes_loop (n : Nat) (l : List Int) (hl : l.length < 1000000) (h : l.all goodTime = true) :
    fromHead (callN D n) D.lend D.gl [5, 6, 7] l_ticket_times_0 (some (tkTimesC l 0)) = some (.exit 0, ⟨envOf 20 [(5, .sl (intsV l) 1), (6, .int .i64 l.length), (7, .int .i64 l.length), (8, .bool false)], [], 1, 0⟩) := by
  have hb := (firstBad_all goodTime l).2 h
  refine x_loop (fun i => tkTimesC l i) l.length (by simp) (by simp [loopFuel]; omega) (fun i hi => tkTimes_round D hD n l i hi hl (firstBad_lt goodTime 0 l i (by omega))) ?_
  simp (maxSteps := 10000000) (disch := first | decide | omega | assumption | rfl | (simp only [List.length_set, List.length_append, List.length_take, List.length_drop, List.length_cons, List.length_nil]; omega)) only [go_sem, Nat.reduceAdd, Nat.reduceSub, Nat.reduceMul, Nat.reduceEqDiff, Nat.reduceLT, Nat.reduceLeDiff, Nat.reduceMod, Nat.reduceDiv, Nat.reduceBEq, Int.reduceLE, Int.reduceEq, Int.reduceLT, Int.reduceToNat, Int.reduceAdd, Int.reduceSub, Int.reduceNeg, reduceIte, reduceCtorEq, Int.reduceMul, l_ticket_times_0, tkTimesC]
  all_goals rfl
theorem tkTimes_bad (n : Nat) (l : List Int) (hl : l.length < 1000000) (h : l.all goodTime = false) :
    ∃ s', fromHead (callN D n) D.lend D.gl [5, 6, 7] l_ticket_times_0 (some (tkTimesC l 0)) = some (.ret, s') ∧ s'.env.getD 2 .undef = badV [116, 105, 109, 101] ∧ s'.objs = [] := by
  have hb : firstBad goodTime l < l.length := Nat.lt_of_le_of_ne (firstBad_le _ _) fun e => by rw [(firstBad_all goodTime l).1 e] at h; cases h
  have key : ∃ s', exec (callN D n) D.lend D.gl l_ticket_times_0 (tkTimesC l (firstBad goodTime l)) = some (.ret, s') ∧ s'.env.getD 2 .undef = badV [116, 105, 109, 101] ∧ s'.objs = [] := by
    have hg := firstBad_at goodTime 0 l hb
    generalize firstBad goodTime l = i at hb hg ⊢
    have a1 : ((i : Int) < (l.length : Int)) = True := by simp; omega
    by_cases h0 : l.getD i 0 < 0
    · have h0 : (l.getD i 0 < 0) = True := by simp only [eq_iff_iff, iff_true]; exact h0
      refine ⟨?s, ?h1, ?h2, ?h3⟩
      case h1 =>
        simp (maxSteps := 10000000) (disch := first | decide | omega | assumption | rfl | (simp only [List.length_set, List.length_append, List.length_take, List.length_drop, List.length_cons, List.length_nil]; omega)) only [go_sem, Nat.reduceAdd, Nat.reduceSub, Nat.reduceMul, Nat.reduceEqDiff, Nat.reduceLT, Nat.reduceLeDiff, Nat.reduceMod, Nat.reduceDiv, Nat.reduceBEq, Int.reduceLE, Int.reduceEq, Int.reduceLT, Int.reduceToNat, Int.reduceAdd, Int.reduceSub, Int.reduceNeg, reduceIte, reduceCtorEq, Int.reduceMul, l_ticket_times_0, tkTimesC, a1, h0, ints_at, splices, spliceL, List.take_zero, List.take_nil, List.take_succ_cons]
        all_goals with_reducible rfl
      case h2 => simp (maxSteps := 10000000) (disch := first | decide | omega | assumption | rfl | (simp only [List.length_set, List.length_append, List.length_take, List.length_drop, List.length_cons, List.length_nil]; omega)) only [go_sem, Nat.reduceAdd, Nat.reduceSub, Nat.reduceMul, Nat.reduceEqDiff, Nat.reduceLT, Nat.reduceLeDiff, Nat.reduceMod, Nat.reduceDiv, Nat.reduceBEq, Int.reduceLE, Int.reduceEq, Int.reduceLT, Int.reduceToNat, Int.reduceAdd, Int.reduceSub, Int.reduceNeg, reduceIte, reduceCtorEq, Int.reduceMul, badV]
      case h3 => rfl
    · have h0' : (l.getD i 0 < 0) = False := by simp only [eq_iff_iff, iff_false]; exact h0
      have a2 : (1099511627776 < l.getD i 0) = True := by
        simp only [goodTime, Bool.and_eq_false_iff, decide_eq_false_iff_not] at hg
        simp only [eq_iff_iff, iff_true]; omega
      refine ⟨?s2, ?h1, ?h2, ?h3⟩
      case h1 =>
        simp (maxSteps := 10000000) (disch := first | decide | omega | assumption | rfl | (simp only [List.length_set, List.length_append, List.length_take, List.length_drop, List.length_cons, List.length_nil]; omega)) only [go_sem, Nat.reduceAdd, Nat.reduceSub, Nat.reduceMul, Nat.reduceEqDiff, Nat.reduceLT, Nat.reduceLeDiff, Nat.reduceMod, Nat.reduceDiv, Nat.reduceBEq, Int.reduceLE, Int.reduceEq, Int.reduceLT, Int.reduceToNat, Int.reduceAdd, Int.reduceSub, Int.reduceNeg, reduceIte, reduceCtorEq, Int.reduceMul, l_ticket_times_0, tkTimesC, a1, a2, h0', ints_at, splices, spliceL, List.take_zero, List.take_nil, List.take_succ_cons]
        all_goals with_reducible rfl
      case h2 => simp (maxSteps := 10000000) (disch := first | decide | omega | assumption | rfl | (simp only [List.length_set, List.length_append, List.length_take, List.length_drop, List.length_cons, List.length_nil]; omega)) only [go_sem, Nat.reduceAdd, Nat.reduceSub, Nat.reduceMul, Nat.reduceEqDiff, Nat.reduceLT, Nat.reduceLeDiff, Nat.reduceMod, Nat.reduceDiv, Nat.reduceBEq, Int.reduceLE, Int.reduceEq, Int.reduceLT, Int.reduceToNat, Int.reduceAdd, Int.reduceSub, Int.reduceNeg, reduceIte, reduceCtorEq, Int.reduceMul, badV]
      case h3 => rfl
  obtain ⟨s', h1, h2⟩ := key
  exact ⟨s', x_loop (fun i => tkTimesC l i) (firstBad goodTime l) (by simp) (by simp [loopFuel]; omega) (fun i hi => tkTimes_round D hD n l i (by omega) hl (firstBad_lt goodTime 0 l i hi)) h1, h2⟩
theorem c_ticket_times (n : Nat) (l : List Int) (hl : l.length < 1000000) :
    callN D (n + 1) n_ticket_times [.sl (intsV l) 1] [] = some (if l.all goodTime then .nili else badV [116, 105, 109, 101], []) := by
  by_cases h : l.all goodTime = true
  · rw [if_pos h]
    have hlp := tkTimes_loop D hD n l hl h
    refine call_fn (hD _ _ fn_ticket_times) (run_ret (s := ?ss) ?hh ?kk)
    case hh =>
      simp (maxSteps := 10000000) (disch := first | decide | omega | assumption | rfl | (simp only [List.length_set, List.length_append, List.length_take, List.length_drop, List.length_cons, List.length_nil]; omega)) only [go_sem, Nat.reduceAdd, Nat.reduceSub, Nat.reduceMul, Nat.reduceEqDiff, Nat.reduceLT, Nat.reduceLeDiff, Nat.reduceMod, Nat.reduceDiv, Nat.reduceBEq, Int.reduceLE, Int.reduceEq, Int.reduceLT, Int.reduceToNat, Int.reduceAdd, Int.reduceSub, Int.reduceNeg, reduceIte, reduceCtorEq, Int.reduceMul, tkTimesC] at hlp
      simp (maxSteps := 10000000) (disch := first | decide | omega | assumption | rfl | (simp only [List.length_set, List.length_append, List.length_take, List.length_drop, List.length_cons, List.length_nil]; omega)) only [go_sem, Nat.reduceAdd, Nat.reduceSub, Nat.reduceMul, Nat.reduceEqDiff, Nat.reduceLT, Nat.reduceLeDiff, Nat.reduceMod, Nat.reduceDiv, Nat.reduceBEq, Int.reduceLE, Int.reduceEq, Int.reduceLT, Int.reduceToNat, Int.reduceAdd, Int.reduceSub, Int.reduceNeg, reduceIte, reduceCtorEq, Int.reduceMul, d_ticket_times, hlp, intsV_length]
      all_goals with_reducible rfl
    case kk =>
      simp (maxSteps := 10000000) (disch := first | decide | omega | assumption | rfl | (simp only [List.length_set, List.length_append, List.length_take, List.length_drop, List.length_cons, List.length_nil]; omega)) only [go_sem, Nat.reduceAdd, Nat.reduceSub, Nat.reduceMul, Nat.reduceEqDiff, Nat.reduceLT, Nat.reduceLeDiff, Nat.reduceMod, Nat.reduceDiv, Nat.reduceBEq, Int.reduceLE, Int.reduceEq, Int.reduceLT, Int.reduceToNat, Int.reduceAdd, Int.reduceSub, Int.reduceNeg, reduceIte, reduceCtorEq, Int.reduceMul, d_ticket_times]
  · rw [if_neg h]
    obtain ⟨s', h1, h2, h3⟩ := tkTimes_bad D hD n l hl (by simpa using h)
    refine call_fn (hD _ _ fn_ticket_times) (run_ret (s := ?s2) ?hh ?kk)
    case hh =>
      simp (maxSteps := 10000000) (disch := first | decide | omega | assumption | rfl | (simp only [List.length_set, List.length_append, List.length_take, List.length_drop, List.length_cons, List.length_nil]; omega)) only [go_sem, Nat.reduceAdd, Nat.reduceSub, Nat.reduceMul, Nat.reduceEqDiff, Nat.reduceLT, Nat.reduceLeDiff, Nat.reduceMod, Nat.reduceDiv, Nat.reduceBEq, Int.reduceLE, Int.reduceEq, Int.reduceLT, Int.reduceToNat, Int.reduceAdd, Int.reduceSub, Int.reduceNeg, reduceIte, reduceCtorEq, Int.reduceMul, tkTimesC] at h1
      simp (maxSteps := 10000000) (disch := first | decide | omega | assumption | rfl | (simp only [List.length_set, List.length_append, List.length_take, List.length_drop, List.length_cons, List.length_nil]; omega)) only [go_sem, Nat.reduceAdd, Nat.reduceSub, Nat.reduceMul, Nat.reduceEqDiff, Nat.reduceLT, Nat.reduceLeDiff, Nat.reduceMod, Nat.reduceDiv, Nat.reduceBEq, Int.reduceLE, Int.reduceEq, Int.reduceLT, Int.reduceToNat, Int.reduceAdd, Int.reduceSub, Int.reduceNeg, reduceIte, reduceCtorEq, Int.reduceMul, d_ticket_times, h1, intsV_length]
      all_goals with_reducible rfl
    case kk =>
      simp (maxSteps := 10000000) (disch := first | decide | omega | assumption | rfl | (simp only [List.length_set, List.length_append, List.length_take, List.length_drop, List.length_cons, List.length_nil]; omega)) only [go_sem, Nat.reduceAdd, Nat.reduceSub, Nat.reduceMul, Nat.reduceEqDiff, Nat.reduceLT, Nat.reduceLeDiff, Nat.reduceMod, Nat.reduceDiv, Nat.reduceBEq, Int.reduceLE, Int.reduceEq, Int.reduceLT, Int.reduceToNat, Int.reduceAdd, Int.reduceSub, Int.reduceNeg, reduceIte, reduceCtorEq, Int.reduceMul, d_ticket_times, h2, h3, badV]
def tgsTimesC (l : List Int) (i : Nat) : St := ⟨envOf 18 [(5, .sl (intsV l) 1), (6, .int .i64 l.length), (7, .int .i64 i)], [], 0, 0⟩
theorem tgsTimes_round (n : Nat) (l : List Int) (i : Nat) (hi : i < l.length) (hl : l.length < 1000000) (hg : goodTime (l.getD i 0) = true) :
    round (exec (callN D n) D.lend D.gl l_tgs_times_0) (canon [5, 6, 7]) (tgsTimesC l i) = some (tgsTimesC l (i + 1)) := by
  have a1 : ((i : Int) < (l.length : Int)) = True := by simp; omega
  simp only [goodTime, Bool.and_eq_true, decide_eq_true_eq] at hg
  have a2 : (1099511627776 < l.getD i 0) = False := by simp only [eq_iff_iff, iff_false]; omega
  have a3 : (l.getD i 0 < 0) = False := by simp only [eq_iff_iff, iff_false]; omega
  simp (maxSteps := 10000000) (disch := first | decide | omega | assumption | rfl | (simp only [List.length_set, List.length_append, List.length_take, List.length_drop, List.length_cons, List.length_nil]; omega)) only [go_sem, Nat.reduceAdd, Nat.reduceSub, Nat.reduceMul, Nat.reduceEqDiff, Nat.reduceLT, Nat.reduceLeDiff, Nat.reduceMod, Nat.reduceDiv, Nat.reduceBEq, Int.reduceLE, Int.reduceEq, Int.reduceLT, Int.reduceToNat, Int.reduceAdd, Int.reduceSub, Int.reduceNeg, reduceIte, reduceCtorEq, Int.reduceMul, l_tgs_times_0, tgsTimesC, a1, a2, a3, ints_at]
  all_goals rfl
theorem tgsTimes_loop (n : Nat) (l : List Int) (hl : l.length < 1000000) (h : l.all goodTime = true) :
    fromHead (callN D n) D.lend D.gl [5, 6, 7] l_tgs_times_0 (some (tgsTimesC l 0)) = some (.exit 0, ⟨envOf 18 [(5, .sl (intsV l) 1), (6, .int .i64 l.length), (7, .int .i64 l.length), (8, .bool false)], [], 1, 0⟩) := by
  have hb := (firstBad_all goodTime l).2 h
  refine x_loop (fun i => tgsTimesC l i) l.length (by simp) (by simp [loopFuel]; omega) (fun i hi => tgsTimes_round D hD n l i hi hl (firstBad_lt goodTime 0 l i (by omega))) ?_
  simp (maxSteps := 10000000) (disch := first | decide | omega | assumption | rfl | (simp only [List.length_set, List.length_append, List.length_take, List.length_drop, List.length_cons, List.length_nil]; omega)) only [go_sem, Nat.reduceAdd, Nat.reduceSub, Nat.reduceMul, Nat.reduceEqDiff, Nat.reduceLT, Nat.reduceLeDiff, Nat.reduceMod, Nat.reduceDiv, Nat.reduceBEq, Int.reduceLE, Int.reduceEq, Int.reduceLT, Int.reduceToNat, Int.reduceAdd, Int.reduceSub, Int.reduceNeg, reduceIte, reduceCtorEq, Int.reduceMul, l_tgs_times_0, tgsTimesC]
  all_goals rfl
theorem tgsTimes_bad (n : Nat) (l : List Int) (hl : l.length < 1000000) (h : l.all goodTime = false) :
    ∃ s', fromHead (callN D n) D.lend D.gl [5, 6, 7] l_tgs_times_0 (some (tgsTimesC l 0)) = some (.ret, s') ∧ s'.env.getD 2 .undef = .bool false ∧ s'.objs = [] := by
  have hb : firstBad goodTime l < l.length := Nat.lt_of_le_of_ne (firstBad_le _ _) fun e => by rw [(firstBad_all goodTime l).1 e] at h; cases h
  have key : ∃ s', exec (callN D n) D.lend D.gl l_tgs_times_0 (tgsTimesC l (firstBad goodTime l)) = some (.ret, s') ∧ s'.env.getD 2 .undef = .bool false ∧ s'.objs = [] := by
    have hg := firstBad_at goodTime 0 l hb
    generalize firstBad goodTime l = i at hb hg ⊢
    have a1 : ((i : Int) < (l.length : Int)) = True := by simp; omega
    by_cases h0 : l.getD i 0 < 0
    · have h0 : (l.getD i 0 < 0) = True := by simp only [eq_iff_iff, iff_true]; exact h0
      refine ⟨?s, ?h1, ?h2, ?h3⟩
      case h1 =>
        simp (maxSteps := 10000000) (disch := first | decide | omega | assumption | rfl | (simp only [List.length_set, List.length_append, List.length_take, List.length_drop, List.length_cons, List.length_nil]; omega)) only [go_sem, Nat.reduceAdd, Nat.reduceSub, Nat.reduceMul, Nat.reduceEqDiff, Nat.reduceLT, Nat.reduceLeDiff, Nat.reduceMod, Nat.reduceDiv, Nat.reduceBEq, Int.reduceLE, Int.reduceEq, Int.reduceLT, Int.reduceToNat, Int.reduceAdd, Int.reduceSub, Int.reduceNeg, reduceIte, reduceCtorEq, Int.reduceMul, l_tgs_times_0, tgsTimesC, a1, h0, ints_at, splices, spliceL, List.take_zero, List.take_nil, List.take_succ_cons]
        all_goals with_reducible rfl
      case h2 => rfl
      case h3 => rfl
    · have h0' : (l.getD i 0 < 0) = False := by simp only [eq_iff_iff, iff_false]; exact h0
      have a2 : (1099511627776 < l.getD i 0) = True := by
        simp only [goodTime, Bool.and_eq_false_iff, decide_eq_false_iff_not] at hg
        simp only [eq_iff_iff, iff_true]; omega
      refine ⟨?s2, ?h1, ?h2, ?h3⟩
      case h1 =>
        simp (maxSteps := 10000000) (disch := first | decide | omega | assumption | rfl | (simp only [List.length_set, List.length_append, List.length_take, List.length_drop, List.length_cons, List.length_nil]; omega)) only [go_sem, Nat.reduceAdd, Nat.reduceSub, Nat.reduceMul, Nat.reduceEqDiff, Nat.reduceLT, Nat.reduceLeDiff, Nat.reduceMod, Nat.reduceDiv, Nat.reduceBEq, Int.reduceLE, Int.reduceEq, Int.reduceLT, Int.reduceToNat, Int.reduceAdd, Int.reduceSub, Int.reduceNeg, reduceIte, reduceCtorEq, Int.reduceMul, l_tgs_times_0, tgsTimesC, a1, a2, h0', ints_at, splices, spliceL, List.take_zero, List.take_nil, List.take_succ_cons]
        all_goals with_reducible rfl
      case h2 => rfl
      case h3 => rfl
  obtain ⟨s', h1, h2⟩ := key
  exact ⟨s', x_loop (fun i => tgsTimesC l i) (firstBad goodTime l) (by simp) (by simp [loopFuel]; omega) (fun i hi => tgsTimes_round D hD n l i (by omega) hl (firstBad_lt goodTime 0 l i hi)) h1, h2⟩
theorem c_tgs_times (n : Nat) (l : List Int) (hl : l.length < 1000000) :
    callN D (n + 1) n_tgs_times [.sl (intsV l) 1] [] = some (.bool (l.all goodTime), []) := by
  by_cases h : l.all goodTime = true
  · rw [h]
    have hlp := tgsTimes_loop D hD n l hl h
    refine call_fn (hD _ _ fn_tgs_times) (run_ret (s := ?ss) ?hh ?kk)
    case hh =>
      simp (maxSteps := 10000000) (disch := first | decide | omega | assumption | rfl | (simp only [List.length_set, List.length_append, List.length_take, List.length_drop, List.length_cons, List.length_nil]; omega)) only [go_sem, Nat.reduceAdd, Nat.reduceSub, Nat.reduceMul, Nat.reduceEqDiff, Nat.reduceLT, Nat.reduceLeDiff, Nat.reduceMod, Nat.reduceDiv, Nat.reduceBEq, Int.reduceLE, Int.reduceEq, Int.reduceLT, Int.reduceToNat, Int.reduceAdd, Int.reduceSub, Int.reduceNeg, reduceIte, reduceCtorEq, Int.reduceMul, tgsTimesC] at hlp
      simp (maxSteps := 10000000) (disch := first | decide | omega | assumption | rfl | (simp only [List.length_set, List.length_append, List.length_take, List.length_drop, List.length_cons, List.length_nil]; omega)) only [go_sem, Nat.reduceAdd, Nat.reduceSub, Nat.reduceMul, Nat.reduceEqDiff, Nat.reduceLT, Nat.reduceLeDiff, Nat.reduceMod, Nat.reduceDiv, Nat.reduceBEq, Int.reduceLE, Int.reduceEq, Int.reduceLT, Int.reduceToNat, Int.reduceAdd, Int.reduceSub, Int.reduceNeg, reduceIte, reduceCtorEq, Int.reduceMul, d_tgs_times, hlp, intsV_length]
      all_goals with_reducible rfl
    case kk =>
      simp (maxSteps := 10000000) (disch := first | decide | omega | assumption | rfl | (simp only [List.length_set, List.length_append, List.length_take, List.length_drop, List.length_cons, List.length_nil]; omega)) only [go_sem, Nat.reduceAdd, Nat.reduceSub, Nat.reduceMul, Nat.reduceEqDiff, Nat.reduceLT, Nat.reduceLeDiff, Nat.reduceMod, Nat.reduceDiv, Nat.reduceBEq, Int.reduceLE, Int.reduceEq, Int.reduceLT, Int.reduceToNat, Int.reduceAdd, Int.reduceSub, Int.reduceNeg, reduceIte, reduceCtorEq, Int.reduceMul, d_tgs_times]
  · rw [show l.all goodTime = false by simpa using h]
    obtain ⟨s', h1, h2, h3⟩ := tgsTimes_bad D hD n l hl (by simpa using h)
    refine call_fn (hD _ _ fn_tgs_times) (run_ret (s := ?s2) ?hh ?kk)
    case hh =>
      simp (maxSteps := 10000000) (disch := first | decide | omega | assumption | rfl | (simp only [List.length_set, List.length_append, List.length_take, List.length_drop, List.length_cons, List.length_nil]; omega)) only [go_sem, Nat.reduceAdd, Nat.reduceSub, Nat.reduceMul, Nat.reduceEqDiff, Nat.reduceLT, Nat.reduceLeDiff, Nat.reduceMod, Nat.reduceDiv, Nat.reduceBEq, Int.reduceLE, Int.reduceEq, Int.reduceLT, Int.reduceToNat, Int.reduceAdd, Int.reduceSub, Int.reduceNeg, reduceIte, reduceCtorEq, Int.reduceMul, tgsTimesC] at h1
      simp (maxSteps := 10000000) (disch := first | decide | omega | assumption | rfl | (simp only [List.length_set, List.length_append, List.length_take, List.length_drop, List.length_cons, List.length_nil]; omega)) only [go_sem, Nat.reduceAdd, Nat.reduceSub, Nat.reduceMul, Nat.reduceEqDiff, Nat.reduceLT, Nat.reduceLeDiff, Nat.reduceMod, Nat.reduceDiv, Nat.reduceBEq, Int.reduceLE, Int.reduceEq, Int.reduceLT, Int.reduceToNat, Int.reduceAdd, Int.reduceSub, Int.reduceNeg, reduceIte, reduceCtorEq, Int.reduceMul, d_tgs_times, h1, intsV_length]
      all_goals with_reducible rfl
    case kk =>
      simp (maxSteps := 10000000) (disch := first | decide | omega | assumption | rfl | (simp only [List.length_set, List.length_append, List.length_take, List.length_drop, List.length_cons, List.length_nil]; omega)) only [go_sem, Nat.reduceAdd, Nat.reduceSub, Nat.reduceMul, Nat.reduceEqDiff, Nat.reduceLT, Nat.reduceLeDiff, Nat.reduceMod, Nat.reduceDiv, Nat.reduceBEq, Int.reduceLE, Int.reduceEq, Int.reduceLT, Int.reduceToNat, Int.reduceAdd, Int.reduceSub, Int.reduceNeg, reduceIte, reduceCtorEq, Int.reduceMul, d_tgs_times, h2, h3]
end Go.Dm.T
set_option linter.unusedSimpArgs false
set_option linter.unusedVariables false
set_option linter.unusedSectionVars false
namespace Go.Dm.T
open Go.Dm
variable (D : DProg) (hD : ∀ f F, fnT f = some F → D.fn f = some F)
include hD
def intByte (n : Int) (i : Nat) : UInt8 := UInt8.ofInt (n / 2 ^ (56 - 8 * i))
def intStep (n : Int) (i : Nat) (b : List UInt8) : List UInt8 := b.set i (intByte n i)
def intB (n : Int) : List UInt8 := upTo (intStep n) 8 (List.replicate 8 0)
def intC (n : Int) (b : List UInt8) (i : Nat) : St := ⟨envOf 18 [(0, .int .i64 n), (3, .hp 0 0 0), (5, .int .i64 i)], [(0, .row (bytesV b) 1)], 1, 0⟩
omit hD in
theorem intB_len (n : Int) (b : List UInt8) (m : Nat) : (upTo (intStep n) m b).length = b.length :=
  upTo_inv (fun (l : List UInt8) => l.length = b.length) rfl fun i _ l hl => by rw [intStep, List.length_set, hl]
omit hD in
theorem intB_length (n : Int) : (intB n).length = 8 := by rw [intB, intB_len]; rfl
omit hD in
theorem shr64 (n : Int) (s : Nat) (h : s ≤ 64) : binV .shr (.int .i64 n) (.int .i64 (s : Int)) = some (.int .i64 (n / 2 ^ s)) := by
  simp only [binV, isShift, if_true, shiftV]
  rw [if_pos (by omega)]
  simp only [Int.toNat_natCast, IntKind.bits, Nat.min_eq_left h]
theorem int_round (k : Nat) (n : Int) (b : List UInt8) (i : Nat) (hi : i < 8) (hb : b.length = 8) :
    round (exec (callN D k) D.lend D.gl l_wire_Int_0) (canon [0, 3, 5]) (intC n b i) = some (intC n (intStep n i b) (i + 1)) := by
  have a1 : ((i : Int) < 8) = True := by simp; omega
  have a6 : (i < 8) = True := by simp; omega
  have a7 : IntKind.i64.wrap (56 - ((8 * i : Nat) : Int)) = ((56 - 8 * i : Nat) : Int) := by rw [wrapi (by omega) (by omega)]; omega
  have a8 : binV .shr (.int .i64 n) (.int .i64 ((56 - 8 * i : Nat) : Int)) = some (.int .i64 (n / 2 ^ (56 - 8 * i))) := shr64 n _ (by omega)
  simp (maxSteps := 10000000) (disch := first | decide | omega | assumption | rfl | (simp only [List.length_set, List.length_append, List.length_take, List.length_drop, List.length_cons, List.length_nil]; omega)) only [go_sem, Nat.reduceAdd, Nat.reduceSub, Nat.reduceMul, Nat.reduceEqDiff, Nat.reduceLT, Nat.reduceLeDiff, Nat.reduceMod, Nat.reduceDiv, Nat.reduceBEq, Int.reduceLE, Int.reduceEq, Int.reduceLT, Int.reduceToNat, Int.reduceAdd, Int.reduceSub, Int.reduceNeg, reduceIte, reduceCtorEq, Int.reduceMul, l_wire_Int_0, intC, intStep, intByte, a1, a6, a7, a8, hb, bytesV_at, wrap_muln, bin8_shl, bin8_shr, bin8_mul, bin8_xor, bin8_and, bin8_or, bin8_add, bin8_sub, wrap8, un8_not]
  all_goals rfl
theorem int_loop (k : Nat) (n : Int) (b : List UInt8) (hb : b.length = 8) :
    fromHead (callN D k) D.lend D.gl [0, 3, 5] l_wire_Int_0 (some (intC n b 0)) = some (.exit 0, ⟨envOf 18 [(0, .int .i64 n), (3, .hp 0 0 0), (5, .int .i64 8), (6, .bool false)], [(0, .row (bytesV (upTo (intStep n) 8 b)) 1)], 2, 0⟩) := by
  refine x_loop (fun i => intC n (upTo (intStep n) i b) i) 8 (by simp) (by simp [loopFuel]) (fun i hi => ?_) ?_
  · exact int_round D hD k n (upTo (intStep n) i b) i hi (by rw [intB_len, hb])
  · simp (maxSteps := 10000000) (disch := first | decide | omega | assumption | rfl | (simp only [List.length_set, List.length_append, List.length_take, List.length_drop, List.length_cons, List.length_nil]; omega)) only [go_sem, Nat.reduceAdd, Nat.reduceSub, Nat.reduceMul, Nat.reduceEqDiff, Nat.reduceLT, Nat.reduceLeDiff, Nat.reduceMod, Nat.reduceDiv, Nat.reduceBEq, Int.reduceLE, Int.reduceEq, Int.reduceLT, Int.reduceToNat, Int.reduceAdd, Int.reduceSub, Int.reduceNeg, reduceIte, reduceCtorEq, Int.reduceMul, l_wire_Int_0, intC]
theorem c_wire_Int (k : Nat) (n : Int) : callN D (k + 1) n_wire_Int [.int .i64 n] [] = some (.hs 0 0 8, [(0, .row (bytesV (intB n)) 1)]) := by
  have hs := intB_length n
  have hlp := int_loop D hD k n (List.replicate 8 0) rfl
  rw [← intB] at hlp
  refine call_fn (hD _ _ fn_wire_Int) (run_ret (s := ?ss) ?hh ?kk)
  case hh =>
    simp (maxSteps := 10000000) (disch := first | decide | omega | assumption | rfl | (simp only [List.length_set, List.length_append, List.length_take, List.length_drop, List.length_cons, List.length_nil]; omega)) only [go_sem, Nat.reduceAdd, Nat.reduceSub, Nat.reduceMul, Nat.reduceEqDiff, Nat.reduceLT, Nat.reduceLeDiff, Nat.reduceMod, Nat.reduceDiv, Nat.reduceBEq, Int.reduceLE, Int.reduceEq, Int.reduceLT, Int.reduceToNat, Int.reduceAdd, Int.reduceSub, Int.reduceNeg, reduceIte, reduceCtorEq, Int.reduceMul, intC] at hlp
    simp (maxSteps := 10000000) (disch := first | decide | omega | assumption | rfl | (simp only [List.length_set, List.length_append, List.length_take, List.length_drop, List.length_cons, List.length_nil]; omega)) only [go_sem, Nat.reduceAdd, Nat.reduceSub, Nat.reduceMul, Nat.reduceEqDiff, Nat.reduceLT, Nat.reduceLeDiff, Nat.reduceMod, Nat.reduceDiv, Nat.reduceBEq, Int.reduceLE, Int.reduceEq, Int.reduceLT, Int.reduceToNat, Int.reduceAdd, Int.reduceSub, Int.reduceNeg, reduceIte, reduceCtorEq, Int.reduceMul, d_wire_Int, hlp, hs]
    all_goals with_reducible rfl
  case kk =>
    simp (maxSteps := 10000000) (disch := first | decide | omega | assumption | rfl | (simp only [List.length_set, List.length_append, List.length_take, List.length_drop, List.length_cons, List.length_nil]; omega)) only [go_sem, Nat.reduceAdd, Nat.reduceSub, Nat.reduceMul, Nat.reduceEqDiff, Nat.reduceLT, Nat.reduceLeDiff, Nat.reduceMod, Nat.reduceDiv, Nat.reduceBEq, Int.reduceLE, Int.reduceEq, Int.reduceLT, Int.reduceToNat, Int.reduceAdd, Int.reduceSub, Int.reduceNeg, reduceIte, reduceCtorEq, Int.reduceMul, d_wire_Int, hs]
def amongS (x n : Int) : Int := if n < 1 then 0 else (IntKind.u64.wrap x % IntKind.u64.wrap n)
theorem c_base_Among (k : Nat) (x n : Int) (h0 : 1 ≤ n) (h1 : n < 1000000) : callN D (k + 1) n_base_Among [.int .i64 x, .int .i64 n] [] = some (.int .i64 (x % 18446744073709551616 % n), []) := by
  have a1 : (n < 1) = False := by simp only [eq_iff_iff, iff_false]; omega
  have e1 : IntKind.u64.wrap n = n := by
    simp only [IntKind.wrap, IntKind.signed, IntKind.bits]; simp; omega
  have e2 : IntKind.u64.wrap x = x % 18446744073709551616 := by
    simp only [IntKind.wrap, IntKind.signed, IntKind.bits]; simp
  have e3 : binV .rem (.int .u64 (x % 18446744073709551616)) (.int .u64 n) = some (.int .u64 (x % 18446744073709551616 % n)) := by
    have h : (n != 0) = true := by simp; omega
    simp only [binV, isShift, binI, Bool.false_eq_true, if_false, if_true]
    rw [if_pos (by omega), Int.tmod_eq_emod_of_nonneg (Int.emod_nonneg _ (by decide))]
  have e4 : IntKind.i64.wrap (x % 18446744073709551616 % n) = x % 18446744073709551616 % n := by
    have := Int.emod_nonneg (x % 18446744073709551616) (show n ≠ 0 by omega)
    have := Int.emod_lt_of_pos (x % 18446744073709551616) (show 0 < n by omega)
    rw [wrapi (by omega) (by omega)]
  refine call_fn (hD _ _ fn_base_Among) (run_ret (s := ?ss) ?hh ?kk)
  case hh =>
    simp (maxSteps := 10000000) (disch := first | decide | omega | assumption | rfl | (simp only [List.length_set, List.length_append, List.length_take, List.length_drop, List.length_cons, List.length_nil]; omega)) only [go_sem, Nat.reduceAdd, Nat.reduceSub, Nat.reduceMul, Nat.reduceEqDiff, Nat.reduceLT, Nat.reduceLeDiff, Nat.reduceMod, Nat.reduceDiv, Nat.reduceBEq, Int.reduceLE, Int.reduceEq, Int.reduceLT, Int.reduceToNat, Int.reduceAdd, Int.reduceSub, Int.reduceNeg, reduceIte, reduceCtorEq, Int.reduceMul, d_base_Among, a1, e1, e2, e3, e4]
    all_goals with_reducible rfl
  case kk =>
    simp (maxSteps := 10000000) (disch := first | decide | omega | assumption | rfl | (simp only [List.length_set, List.length_append, List.length_take, List.length_drop, List.length_cons, List.length_nil]; omega)) only [go_sem, Nat.reduceAdd, Nat.reduceSub, Nat.reduceMul, Nat.reduceEqDiff, Nat.reduceLT, Nat.reduceLeDiff, Nat.reduceMod, Nat.reduceDiv, Nat.reduceBEq, Int.reduceLE, Int.reduceEq, Int.reduceLT, Int.reduceToNat, Int.reduceAdd, Int.reduceSub, Int.reduceNeg, reduceIte, reduceCtorEq, Int.reduceMul, d_base_Among]
/-- A slice of one's own: nothing, or an object. -/
def ownV (l : List UInt8) : V := if l = [] then .nils else .hs 0 0 l.length
def ownO (l : List UInt8) : Objs := if l = [] then [] else [(0, .row (bytesV l) 1)]
theorem c_base_Bytes0 (k : Nat) (v : V) (hv : IsB v []) : callN D (k + 1) n_base_Bytes [v] [] = some (.nils, []) := by
  have e : bytesV [] = [] := rfl
  refine call_fn (hD _ _ fn_base_Bytes) (run_ret (s := ?ss) ?hh ?kk)
  case hh =>
    simp (maxSteps := 10000000) (disch := first | decide | omega | assumption | rfl | (simp only [List.length_set, List.length_append, List.length_take, List.length_drop, List.length_cons, List.length_nil]; omega)) only [go_sem, Nat.reduceAdd, Nat.reduceSub, Nat.reduceMul, Nat.reduceEqDiff, Nat.reduceLT, Nat.reduceLeDiff, Nat.reduceMod, Nat.reduceDiv, Nat.reduceBEq, Int.reduceLE, Int.reduceEq, Int.reduceLT, Int.reduceToNat, Int.reduceAdd, Int.reduceSub, Int.reduceNeg, reduceIte, reduceCtorEq, Int.reduceMul, d_base_Bytes, isB_len hv, isB_view hv, isB_deep hv, isB_hands hv, isB_ren hv, isB_width hv, isB_cells hv, isB_sto hv, isB_one hv, isB_at hv, xParts, xPartsD, setParts, List.cons_ne_nil, ofNs_ne, e]
    all_goals with_reducible rfl
  case kk =>
    simp (maxSteps := 10000000) (disch := first | decide | omega | assumption | rfl | (simp only [List.length_set, List.length_append, List.length_take, List.length_drop, List.length_cons, List.length_nil]; omega)) only [go_sem, Nat.reduceAdd, Nat.reduceSub, Nat.reduceMul, Nat.reduceEqDiff, Nat.reduceLT, Nat.reduceLeDiff, Nat.reduceMod, Nat.reduceDiv, Nat.reduceBEq, Int.reduceLE, Int.reduceEq, Int.reduceLT, Int.reduceToNat, Int.reduceAdd, Int.reduceSub, Int.reduceNeg, reduceIte, reduceCtorEq, Int.reduceMul, d_base_Bytes]
theorem c_base_Bytes1 (k : Nat) (v : V) (l : List UInt8) (hv : IsB v l) (hl : l.length < 1000000000000) (h : l ≠ []) : callN D (k + 1) n_base_Bytes [v] [] = some (.hs 0 0 l.length, [(0, .row (bytesV l) 1)]) := by
  have e : (bytesV l = []) = False := by simp [bytesV, h]
  have e2 : (l.length ≤ roomBytes) = True := by simp only [roomBytes, eq_iff_iff, iff_true]; omega
  refine call_fn (hD _ _ fn_base_Bytes) (run_ret (s := ?ss) ?hh ?kk)
  case hh =>
    simp (maxSteps := 10000000) (disch := first | decide | omega | assumption | rfl | (simp only [List.length_set, List.length_append, List.length_take, List.length_drop, List.length_cons, List.length_nil]; omega)) only [go_sem, Nat.reduceAdd, Nat.reduceSub, Nat.reduceMul, Nat.reduceEqDiff, Nat.reduceLT, Nat.reduceLeDiff, Nat.reduceMod, Nat.reduceDiv, Nat.reduceBEq, Int.reduceLE, Int.reduceEq, Int.reduceLT, Int.reduceToNat, Int.reduceAdd, Int.reduceSub, Int.reduceNeg, reduceIte, reduceCtorEq, Int.reduceMul, d_base_Bytes, isB_len hv, isB_view hv, isB_deep hv, isB_hands hv, isB_ren hv, isB_width hv, isB_cells hv, isB_sto hv, isB_one hv, isB_at hv, xParts, xPartsD, setParts, List.cons_ne_nil, ofNs_ne, e, e2]
    all_goals with_reducible rfl
  case kk =>
    simp (maxSteps := 10000000) (disch := first | decide | omega | assumption | rfl | (simp only [List.length_set, List.length_append, List.length_take, List.length_drop, List.length_cons, List.length_nil]; omega)) only [go_sem, Nat.reduceAdd, Nat.reduceSub, Nat.reduceMul, Nat.reduceEqDiff, Nat.reduceLT, Nat.reduceLeDiff, Nat.reduceMod, Nat.reduceDiv, Nat.reduceBEq, Int.reduceLE, Int.reduceEq, Int.reduceLT, Int.reduceToNat, Int.reduceAdd, Int.reduceSub, Int.reduceNeg, reduceIte, reduceCtorEq, Int.reduceMul, d_base_Bytes]
end Go.Dm.T
set_option linter.unusedSimpArgs false
set_option linter.unusedVariables false
set_option linter.unusedSectionVars false
namespace Go.Dm.T
open Go.Dm
/-- Fields: their tags, and their bytes. -/
def fieldV (t : Int) (v : V) : V := .agg [.int .i64 t, v]
def FldR (es : List V) (fs : List (Int × List UInt8)) : Prop := es.length = fs.length ∧ ∀ i, i < fs.length → ∃ v, es[i]? = some (fieldV (fs.getD i (0, [])).1 v) ∧ IsB v (fs.getD i (0, [])).2
theorem bytes3 (a b c : UInt8) : [V.int .u8 (a.toNat : Int), V.int .u8 (b.toNat : Int), V.int .u8 (c.toNat : Int)] = bytesV [a, b, c] := rfl
theorem shr8 (n : Int) : binV .shr (.int .i64 n) (.int .u64 8) = some (.int .i64 (n / 256)) := by
  simp [binV, isShift, shiftV, IntKind.bits]
variable (D : DProg) (hD : ∀ f F, fnT f = some F → D.fn f = some F)
include hD
def hdr (t : Int) (n : Nat) : List UInt8 := [UInt8.ofInt t, UInt8.ofInt ((n : Int) / 256), UInt8.ofInt n]
omit hD in
theorem hdr_eq (t : Int) (n : Nat) : [V.int .u8 ((UInt8.ofInt t).toNat : Int), V.int .u8 ((UInt8.ofInt ((n : Int) / 256)).toNat : Int), V.int .u8 ((UInt8.ofInt (n : Int)).toNat : Int)] = bytesV (hdr t n) := rfl
omit hD in
theorem hdr_len (t : Int) (n : Nat) : (hdr t n).length = 3 := rfl
omit hD in
theorem hdr_take (t : Int) (n : Nat) : (hdr t n).take 3 = hdr t n := rfl
omit hD in
theorem hdr_ne (t : Int) (n : Nat) : (bytesV (hdr t n) = []) = False := by simp [bytesV, hdr]
def putStep (fs : List (Int × List UInt8)) (i : Nat) (out : List UInt8) : List UInt8 := out ++ hdr (fs.getD i (0, [])).1 (fs.getD i (0, [])).2.length ++ (fs.getD i (0, [])).2
def putC (es : List V) (out : List UInt8) (i : Nat) : St := ⟨envOf 41 [(5, .hs 0 0 out.length), (15, .sl es 2), (16, .int .i64 es.length), (17, .int .i64 i)], [(0, .row (bytesV out) 1)], 1, 0⟩
def putC0 (es : List V) : St := ⟨envOf 41 [(5, .nils), (15, .sl es 2), (16, .int .i64 es.length), (17, .int .i64 0)], [], 0, 0⟩
theorem put_round (n : Nat) (es : List V) (fs : List (Int × List UInt8)) (hf : FldR es fs) (out : List UInt8) (i : Nat) (hi : i < fs.length) (hl : fs.length < 1000000) (hb : (fs.getD i (0, [])).2.length < 1000000) (ho : out.length < 1000000000000) :
    round (exec (callN D n) D.lend D.gl l_wire_Put_0) (canon [5, 15, 16, 17]) (putC es out i) = some (putC es (putStep fs i out) (i + 1)) := by
  obtain ⟨v, h1, hv⟩ := hf.2 i hi
  obtain ⟨hlen, _⟩ := hf
  unfold putStep
  generalize (fs.getD i (0, [])).2 = b at hb hv
  generalize (fs.getD i (0, [])).1 = t at h1
  have a1 : ((i : Int) < (es.length : Int)) = True := by simp; omega
  have a2 : (out.length + 3 ≤ roomBytes) = True := by simp only [roomBytes, eq_iff_iff, iff_true]; omega
  have a3 : (out.length + 3 + b.length ≤ roomBytes) = True := by simp only [roomBytes, eq_iff_iff, iff_true]; omega
  have e1 : fieldV t v = .agg [.int .i64 t, v] := rfl
  have a4 : (out ++ hdr t b.length).take (out.length + 3) = out ++ hdr t b.length := List.take_of_length_le (by simp [hdr])
  simp (maxSteps := 10000000) (disch := first | decide | omega | assumption | rfl | (simp only [List.length_set, List.length_append, List.length_take, List.length_drop, List.length_cons, List.length_nil]; omega)) only [go_sem, Nat.reduceAdd, Nat.reduceSub, Nat.reduceMul, Nat.reduceEqDiff, Nat.reduceLT, Nat.reduceLeDiff, Nat.reduceMod, Nat.reduceDiv, Nat.reduceBEq, Int.reduceLE, Int.reduceEq, Int.reduceLT, Int.reduceToNat, Int.reduceAdd, Int.reduceSub, Int.reduceNeg, reduceIte, reduceCtorEq, Int.reduceMul, l_wire_Put_0, putC, a4, hdr_eq, hdr_len, hdr_take, hdr_ne, a1, a2, a3, h1, e1, isB_len hv, isB_view hv, isB_deep hv, isB_hands hv, isB_ren hv, isB_width hv, isB_cells hv, isB_sto hv, isB_one hv, isB_at hv, xParts, xPartsD, setParts, List.cons_ne_nil, ofNs_ne, splices, spliceL, List.take_zero, List.take_nil, List.take_succ_cons, shr8, bin8_shl, bin8_shr, bin8_mul, bin8_xor, bin8_and, bin8_or, bin8_add, bin8_sub, wrap8, un8_not, bytesV_append, List.length_append]
  all_goals rfl
theorem put_round0 (n : Nat) (es : List V) (fs : List (Int × List UInt8)) (hf : FldR es fs) (hi : 0 < fs.length) (hl : fs.length < 1000000) (hb : (fs.getD 0 (0, [])).2.length < 1000000) :
    round (exec (callN D n) D.lend D.gl l_wire_Put_0) (canon [5, 15, 16, 17]) (putC0 es) = some (putC es (putStep fs 0 []) 1) := by
  obtain ⟨v, h1, hv⟩ := hf.2 0 hi
  obtain ⟨hlen, _⟩ := hf
  unfold putStep
  generalize (fs.getD 0 (0, [])).2 = b at hb hv
  generalize (fs.getD 0 (0, [])).1 = t at h1
  have a1 : ((0 : Int) < (es.length : Int)) = True := by simp; omega
  have a2 : (3 ≤ roomBytes) = True := by simp only [roomBytes, eq_iff_iff, iff_true]; omega
  have a3 : (3 + b.length ≤ roomBytes) = True := by simp only [roomBytes, eq_iff_iff, iff_true]; omega
  have e1 : fieldV t v = .agg [.int .i64 t, v] := rfl
  simp (maxSteps := 10000000) (disch := first | decide | omega | assumption | rfl | (simp only [List.length_set, List.length_append, List.length_take, List.length_drop, List.length_cons, List.length_nil]; omega)) only [go_sem, Nat.reduceAdd, Nat.reduceSub, Nat.reduceMul, Nat.reduceEqDiff, Nat.reduceLT, Nat.reduceLeDiff, Nat.reduceMod, Nat.reduceDiv, Nat.reduceBEq, Int.reduceLE, Int.reduceEq, Int.reduceLT, Int.reduceToNat, Int.reduceAdd, Int.reduceSub, Int.reduceNeg, reduceIte, reduceCtorEq, Int.reduceMul, l_wire_Put_0, putC, putC0, hdr_eq, hdr_len, hdr_take, hdr_ne, a1, a2, a3, h1, e1, isB_len hv, isB_view hv, isB_deep hv, isB_hands hv, isB_ren hv, isB_width hv, isB_cells hv, isB_sto hv, isB_one hv, isB_at hv, xParts, xPartsD, setParts, List.cons_ne_nil, ofNs_ne, splices, spliceL, List.take_zero, List.take_nil, List.take_succ_cons, shr8, bin8_shl, bin8_shr, bin8_mul, bin8_xor, bin8_and, bin8_or, bin8_add, bin8_sub, wrap8, un8_not, bytesV_append, List.length_append]
  all_goals rfl
def lastAt (fs : List (Int × List UInt8)) (i : Nat) : Int := if i = 0 then 0 else (fs.getD (i - 1) (0, [])).1
def sizeAt (fs : List (Int × List UInt8)) (i : Nat) : Nat := upTo (fun j s => s + (3 + (fs.getD j (0, [])).2.length)) i 0
def ChkOk (fs : List (Int × List UInt8)) : Prop := ∀ i, i < fs.length → lastAt fs i < (fs.getD i (0, [])).1 ∧ (fs.getD i (0, [])).1 ≤ 255 ∧ (fs.getD i (0, [])).2.length ≤ 4096 ∧ sizeAt fs (i + 1) ≤ 4096
def chkC (es : List V) (last : Int) (size i : Nat) : St := ⟨envOf 60 [(3, .int .i64 last), (4, .int .i64 size), (5, .nili), (14, .sl es 2), (15, .int .i64 es.length), (16, .int .i64 i)], [], 0, 0⟩
omit hD in
theorem lastAt_succ (fs : List (Int × List UInt8)) (i : Nat) : lastAt fs (i + 1) = (fs.getD i (0, [])).1 := by simp [lastAt]
theorem check_round (n : Nat) (es : List V) (fs : List (Int × List UInt8)) (hf : FldR es fs) (i : Nat) (hi : i < fs.length) (hl : fs.length ≤ 256) (hc : ChkOk fs) :
    round (exec (callN D n) D.lend D.gl l_wire_check_0) (canon [3, 4, 5, 14, 15, 16]) (chkC es (lastAt fs i) (sizeAt fs i) i) = some (chkC es (lastAt fs (i + 1)) (sizeAt fs (i + 1)) (i + 1)) := by
  obtain ⟨v, h1, hv⟩ := hf.2 i hi
  obtain ⟨hlen, _⟩ := hf
  obtain ⟨c1, c2, c3, c4⟩ := hc i hi
  rw [lastAt_succ]
  have es1 : sizeAt fs (i + 1) = sizeAt fs i + (3 + (fs.getD i (0, [])).2.length) := rfl
  rw [es1] at c4 ⊢
  generalize (fs.getD i (0, [])).2 = b at hv c3 c4 ⊢
  generalize (fs.getD i (0, [])).1 = t at h1 c1 c2 ⊢
  generalize sizeAt fs i = sz at c4 ⊢
  generalize lastAt fs i = la at c1 ⊢
  have a1 : ((i : Int) < (es.length : Int)) = True := by simp; omega
  have a2 : (t ≤ la) = False := by simp only [eq_iff_iff, iff_false]; omega
  have a3 : (255 < t) = False := by simp only [eq_iff_iff, iff_false]; omega
  have a4 : (4096 < (b.length : Int)) = False := by simp only [eq_iff_iff, iff_false]; omega
  have a5 : IntKind.i64.wrap (3 + (b.length : Int)) = ((3 + b.length : Nat) : Int) := by rw [wrapi (by omega) (by omega)]; omega
  have a6 : IntKind.i64.wrap ((sz : Int) + ((3 + b.length : Nat) : Int)) = ((sz + (3 + b.length) : Nat) : Int) := by rw [wrapi (by omega) (by omega)]; omega
  have a7 : (4096 < ((sz + (3 + b.length) : Nat) : Int)) = False := by simp only [eq_iff_iff, iff_false]; omega
  have e1 : fieldV t v = .agg [.int .i64 t, v] := rfl
  simp (maxSteps := 10000000) (disch := first | decide | omega | assumption | rfl | (simp only [List.length_set, List.length_append, List.length_take, List.length_drop, List.length_cons, List.length_nil]; omega)) only [go_sem, Nat.reduceAdd, Nat.reduceSub, Nat.reduceMul, Nat.reduceEqDiff, Nat.reduceLT, Nat.reduceLeDiff, Nat.reduceMod, Nat.reduceDiv, Nat.reduceBEq, Int.reduceLE, Int.reduceEq, Int.reduceLT, Int.reduceToNat, Int.reduceAdd, Int.reduceSub, Int.reduceNeg, reduceIte, reduceCtorEq, Int.reduceMul, l_wire_check_0, chkC, a1, a2, a3, a4, a5, a6, a7, h1, e1, isB_len hv, isB_view hv, isB_deep hv, isB_hands hv, isB_ren hv, isB_width hv, isB_cells hv, isB_sto hv, isB_one hv, isB_at hv, xParts, xPartsD, setParts, List.cons_ne_nil, ofNs_ne, splices, spliceL, List.take_zero, List.take_nil, List.take_succ_cons]
  all_goals rfl
theorem check_loop (n : Nat) (es : List V) (fs : List (Int × List UInt8)) (hf : FldR es fs) (hl : fs.length ≤ 256) (hc : ChkOk fs) :
    fromHead (callN D n) D.lend D.gl [3, 4, 5, 14, 15, 16] l_wire_check_0 (some (chkC es 0 0 0)) = some (.exit 0, ⟨envOf 60 [(3, .int .i64 (lastAt fs fs.length)), (4, .int .i64 (sizeAt fs fs.length)), (5, .nili), (14, .sl es 2), (15, .int .i64 es.length), (16, .int .i64 fs.length), (17, .bool false)], [], 1, 0⟩) := by
  refine x_loop (fun i => chkC es (lastAt fs i) (sizeAt fs i) i) fs.length (by simp) (by simp [loopFuel]; omega) (fun i hi => check_round D hD n es fs hf i hi hl hc) ?_
  have hlen := hf.1
  simp (maxSteps := 10000000) (disch := first | decide | omega | assumption | rfl | (simp only [List.length_set, List.length_append, List.length_take, List.length_drop, List.length_cons, List.length_nil]; omega)) only [go_sem, Nat.reduceAdd, Nat.reduceSub, Nat.reduceMul, Nat.reduceEqDiff, Nat.reduceLT, Nat.reduceLeDiff, Nat.reduceMod, Nat.reduceDiv, Nat.reduceBEq, Int.reduceLE, Int.reduceEq, Int.reduceLT, Int.reduceToNat, Int.reduceAdd, Int.reduceSub, Int.reduceNeg, reduceIte, reduceCtorEq, Int.reduceMul, l_wire_check_0, chkC, hlen]
  all_goals rfl
theorem c_wire_check (n : Nat) (es : List V) (fs : List (Int × List UInt8)) (hf : FldR es fs) (hl : fs.length ≤ 256) (hc : ChkOk fs) :
    callN D (n + 1) n_wire_check [.sl es 2] [] = some (.nili, []) := by
  have hlp := check_loop D hD n es fs hf hl hc
  have a1 : (256 < (es.length : Int)) = False := by rw [hf.1]; simp only [eq_iff_iff, iff_false]; omega
  refine call_fn (hD _ _ fn_wire_check) (run_ret (s := ?ss) ?hh ?kk)
  case hh =>
    simp (maxSteps := 10000000) (disch := first | decide | omega | assumption | rfl | (simp only [List.length_set, List.length_append, List.length_take, List.length_drop, List.length_cons, List.length_nil]; omega)) only [go_sem, Nat.reduceAdd, Nat.reduceSub, Nat.reduceMul, Nat.reduceEqDiff, Nat.reduceLT, Nat.reduceLeDiff, Nat.reduceMod, Nat.reduceDiv, Nat.reduceBEq, Int.reduceLE, Int.reduceEq, Int.reduceLT, Int.reduceToNat, Int.reduceAdd, Int.reduceSub, Int.reduceNeg, reduceIte, reduceCtorEq, Int.reduceMul, chkC] at hlp
    simp (maxSteps := 10000000) (disch := first | decide | omega | assumption | rfl | (simp only [List.length_set, List.length_append, List.length_take, List.length_drop, List.length_cons, List.length_nil]; omega)) only [go_sem, Nat.reduceAdd, Nat.reduceSub, Nat.reduceMul, Nat.reduceEqDiff, Nat.reduceLT, Nat.reduceLeDiff, Nat.reduceMod, Nat.reduceDiv, Nat.reduceBEq, Int.reduceLE, Int.reduceEq, Int.reduceLT, Int.reduceToNat, Int.reduceAdd, Int.reduceSub, Int.reduceNeg, reduceIte, reduceCtorEq, Int.reduceMul, d_wire_check, hlp, a1]
    all_goals with_reducible rfl
  case kk =>
    simp (maxSteps := 10000000) (disch := first | decide | omega | assumption | rfl | (simp only [List.length_set, List.length_append, List.length_take, List.length_drop, List.length_cons, List.length_nil]; omega)) only [go_sem, Nat.reduceAdd, Nat.reduceSub, Nat.reduceMul, Nat.reduceEqDiff, Nat.reduceLT, Nat.reduceLeDiff, Nat.reduceMod, Nat.reduceDiv, Nat.reduceBEq, Int.reduceLE, Int.reduceEq, Int.reduceLT, Int.reduceToNat, Int.reduceAdd, Int.reduceSub, Int.reduceNeg, reduceIte, reduceCtorEq, Int.reduceMul, d_wire_check]
end Go.Dm.T
set_option linter.unusedSimpArgs false
set_option linter.unusedVariables false
set_option linter.unusedSectionVars false
namespace Go.Dm.T
open Go.Dm
def putS (fs : List (Int × List UInt8)) : List UInt8 := upTo (putStep fs) fs.length []
theorem putAt_length (fs : List (Int × List UInt8)) : ∀ i, (upTo (putStep fs) i []).length = sizeAt fs i
  | 0 => rfl
  | i + 1 => by
    rw [upTo_succ]
    have : sizeAt fs (i + 1) = sizeAt fs i + (3 + (fs.getD i (0, [])).2.length) := rfl
    rw [this, ← putAt_length fs i]
    simp only [putStep, List.length_append, hdr_len]
    omega
theorem eqn (ts : List TypeId) : (eqV 3 true ts .nili .nili = some true) ∧ (∀ l t x, eqV 3 l ts (.iface t x) .nili = some false) ∧ (∀ l t x, eqV 3 l ts .nili (.iface t x) = some false) := ⟨rfl, fun _ _ _ => rfl, fun _ _ _ => rfl⟩
theorem putS_eq (fs : List (Int × List UInt8)) : upTo (putStep fs) fs.length [] = putS fs := rfl
variable (D : DProg) (hD : ∀ f F, fnT f = some F → D.fn f = some F)
include hD
theorem put_loop (n : Nat) (es : List V) (fs : List (Int × List UInt8)) (hf : FldR es fs) (h0 : 0 < fs.length) (hl : fs.length ≤ 256) (hc : ChkOk fs) :
    fromHead (callN D n) D.lend D.gl [5, 15, 16, 17] l_wire_Put_0 (some (putC0 es)) = some (.exit 0, ⟨envOf 41 [(5, .hs 0 0 (putS fs).length), (15, .sl es 2), (16, .int .i64 es.length), (17, .int .i64 fs.length), (18, .bool false)], [(0, .row (bytesV (putS fs)) 1)], 2, 0⟩) := by
  refine x_loop (fun i => if i = 0 then putC0 es else putC es (upTo (putStep fs) i []) i) fs.length (by simp) (by simp [loopFuel]; omega) (fun i hi => ?_) ?_
  · have hb := (hc i hi).2.2.1
    by_cases hi0 : i = 0
    · subst hi0
      simp only [if_true, Nat.zero_add, Nat.one_ne_zero, if_false, upTo]
      exact put_round0 D hD n es fs hf hi (by omega) (by omega)
    · have hs : sizeAt fs i ≤ 4096 := by
        have := (hc i hi).2.2.2
        have e : sizeAt fs (i + 1) = sizeAt fs i + (3 + (fs.getD i (0, [])).2.length) := rfl
        omega
      simp only [hi0, if_false, Nat.add_one_ne_zero, upTo_succ]
      exact put_round D hD n es fs hf _ i hi (by omega) (by omega) (by rw [putAt_length]; omega)
  · have hlen := hf.1
    have h0' : (fs.length = 0) = False := by simp; intro h; simp [h] at h0
    simp only [h0', if_false, putS_eq]
    simp (maxSteps := 10000000) (disch := first | decide | omega | assumption | rfl | (simp only [List.length_set, List.length_append, List.length_take, List.length_drop, List.length_cons, List.length_nil]; omega)) only [go_sem, Nat.reduceAdd, Nat.reduceSub, Nat.reduceMul, Nat.reduceEqDiff, Nat.reduceLT, Nat.reduceLeDiff, Nat.reduceMod, Nat.reduceDiv, Nat.reduceBEq, Int.reduceLE, Int.reduceEq, Int.reduceLT, Int.reduceToNat, Int.reduceAdd, Int.reduceSub, Int.reduceNeg, reduceIte, reduceCtorEq, Int.reduceMul, l_wire_Put_0, putC, hlen]
    all_goals rfl
theorem c_wire_Put (n : Nat) (es : List V) (fs : List (Int × List UInt8)) (hf : FldR es fs) (h0 : 0 < fs.length) (hl : fs.length ≤ 256) (hc : ChkOk fs) :
    callN D (n + 2) n_wire_Put [.sl es 2] [] = some (.tup [.hs 0 0 (putS fs).length, .int .i64 0], [(0, .row (bytesV (putS fs)) 1)]) := by
  have hlp := put_loop D hD (n + 1) es fs hf h0 hl hc
  have hck := c_wire_check D hD n es fs hf hl hc
  refine call_fn (hD _ _ fn_wire_Put) (run_ret (s := ?ss) ?hh ?kk)
  case hh =>
    simp (maxSteps := 10000000) (disch := first | decide | omega | assumption | rfl | (simp only [List.length_set, List.length_append, List.length_take, List.length_drop, List.length_cons, List.length_nil]; omega)) only [go_sem, Nat.reduceAdd, Nat.reduceSub, Nat.reduceMul, Nat.reduceEqDiff, Nat.reduceLT, Nat.reduceLeDiff, Nat.reduceMod, Nat.reduceDiv, Nat.reduceBEq, Int.reduceLE, Int.reduceEq, Int.reduceLT, Int.reduceToNat, Int.reduceAdd, Int.reduceSub, Int.reduceNeg, reduceIte, reduceCtorEq, Int.reduceMul, putC0] at hlp
    simp (maxSteps := 10000000) (disch := first | decide | omega | assumption | rfl | (simp only [List.length_set, List.length_append, List.length_take, List.length_drop, List.length_cons, List.length_nil]; omega)) only [go_sem, Nat.reduceAdd, Nat.reduceSub, Nat.reduceMul, Nat.reduceEqDiff, Nat.reduceLT, Nat.reduceLeDiff, Nat.reduceMod, Nat.reduceDiv, Nat.reduceBEq, Int.reduceLE, Int.reduceEq, Int.reduceLT, Int.reduceToNat, Int.reduceAdd, Int.reduceSub, Int.reduceNeg, reduceIte, reduceCtorEq, Int.reduceMul, d_wire_Put, lend_of hD fn_wire_check, d_wire_check, hck, hlp, eqn]
    all_goals with_reducible rfl
  case kk =>
    simp (maxSteps := 10000000) (disch := first | decide | omega | assumption | rfl | (simp only [List.length_set, List.length_append, List.length_take, List.length_drop, List.length_cons, List.length_nil]; omega)) only [go_sem, Nat.reduceAdd, Nat.reduceSub, Nat.reduceMul, Nat.reduceEqDiff, Nat.reduceLT, Nat.reduceLeDiff, Nat.reduceMod, Nat.reduceDiv, Nat.reduceBEq, Int.reduceLE, Int.reduceEq, Int.reduceLT, Int.reduceToNat, Int.reduceAdd, Int.reduceSub, Int.reduceNeg, reduceIte, reduceCtorEq, Int.reduceMul, d_wire_Put]
end Go.Dm.T
set_option linter.unusedSimpArgs false
set_option linter.unusedVariables false
set_option linter.unusedSectionVars false
namespace Go.Dm.T
open Go.Dm
def AllB (vs : List V) (ls : List (List UInt8)) : Prop := vs.length = ls.length ∧ ∀ i, i < ls.length → ∃ v, vs[i]? = some v ∧ IsB v (ls.getD i [])
def fldsOf (ls : List (List UInt8)) : List (Int × List UInt8) := (List.range ls.length).map fun i => (((i + 1 : Nat) : Int), ls.getD i [])
def valE (vs : List V) (n : Nat) : List V := (List.range n).map fun i => fieldV ((i + 1 : Nat) : Int) (vs.getD i .undef)
theorem valE_length (vs : List V) (n : Nat) : (valE vs n).length = n := by simp [valE]
theorem fldsOf_length (ls : List (List UInt8)) : (fldsOf ls).length = ls.length := by simp [fldsOf]
theorem valE_succ (vs : List V) (n : Nat) : valE vs (n + 1) = valE vs n ++ [fieldV ((n + 1 : Nat) : Int) (vs.getD n .undef)] := by
  simp only [valE, List.range_succ, List.map_append, List.map_cons, List.map_nil]
theorem fldsOf_getD (ls : List (List UInt8)) (i : Nat) (h : i < ls.length) : (fldsOf ls).getD i (0, []) = (((i + 1 : Nat) : Int), ls.getD i []) := by
  rw [fldsOf, List.getD_eq_getElem?_getD, List.getElem?_map, List.getElem?_range h]; rfl
theorem valE_fld {vs : List V} {ls : List (List UInt8)} (h : AllB vs ls) : FldR (valE vs vs.length) (fldsOf ls) := by
  refine ⟨by rw [valE_length, fldsOf_length, h.1], fun i hi => ?_⟩
  rw [fldsOf_length] at hi
  obtain ⟨v, h1, h2⟩ := h.2 i hi
  rw [fldsOf_getD ls i hi]
  refine ⟨v, ?_, h2⟩
  rw [valE, List.getElem?_map, List.getElem?_range (by rw [h.1]; exact hi)]
  simp only [Option.map_some, List.getD_eq_getElem?_getD, h1, Option.getD_some]
variable (D : DProg) (hD : ∀ f F, fnT f = some F → D.fn f = some F)
include hD
def valC (vs : List V) (i : Nat) : St := ⟨envOf 29 [(3, .hs 0 0 i), (8, .sl vs 1), (9, .int .i64 vs.length), (10, .int .i64 i)], [(0, .row (valE vs i) 2)], 1, 0⟩
def valC0 (vs : List V) : St := ⟨envOf 29 [(3, .nils), (8, .sl vs 1), (9, .int .i64 vs.length), (10, .int .i64 0)], [], 0, 0⟩
theorem value_round0 (n : Nat) (vs : List V) (ls : List (List UInt8)) (hf : AllB vs ls) (h0 : 0 < ls.length) :
    round (exec (callN D n) D.lend D.gl l_ticket_value_0) (canon [3, 8, 9, 10]) (valC0 vs) = some (valC vs 1) := by
  obtain ⟨v, h1, hv⟩ := hf.2 0 h0
  have hlen := hf.1
  have a1 : ((0 : Int) < (vs.length : Int)) = True := by simp; omega
  have e1 : valE vs 1 = [.agg [.int .i64 1, v]] := by
    have : vs.getD 0 .undef = v := by rw [List.getD_eq_getElem?_getD, h1]; rfl
    simp only [valE, List.range, List.range.loop, List.map_cons, List.map_nil, this, fieldV]; rfl
  have e2 : IntKind.i64.wrap 1 = 1 := by decide
  have a2 : (32 ≤ roomBytes) = True := by simp only [roomBytes, eq_iff_iff, iff_true]; omega
  simp (maxSteps := 10000000) (disch := first | decide | omega | assumption | rfl | (simp only [List.length_set, List.length_append, List.length_take, List.length_drop, List.length_cons, List.length_nil]; omega)) only [go_sem, Nat.reduceAdd, Nat.reduceSub, Nat.reduceMul, Nat.reduceEqDiff, Nat.reduceLT, Nat.reduceLeDiff, Nat.reduceMod, Nat.reduceDiv, Nat.reduceBEq, Int.reduceLE, Int.reduceEq, Int.reduceLT, Int.reduceToNat, Int.reduceAdd, Int.reduceSub, Int.reduceNeg, reduceIte, reduceCtorEq, Int.reduceMul, l_ticket_value_0, valC, valC0, a1, a2, e1, e2, h1, isB_len hv, isB_view hv, isB_deep hv, isB_hands hv, isB_ren hv, isB_width hv, isB_cells hv, isB_sto hv, isB_one hv, isB_at hv, xParts, xPartsD, setParts, List.cons_ne_nil, ofNs_ne, splices, spliceL, List.take_zero, List.take_nil, List.take_succ_cons]
  all_goals rfl
theorem value_round (n : Nat) (vs : List V) (ls : List (List UInt8)) (hf : AllB vs ls) (i : Nat) (hi : i < ls.length) (hl : ls.length < 1000000) :
    round (exec (callN D n) D.lend D.gl l_ticket_value_0) (canon [3, 8, 9, 10]) (valC vs i) = some (valC vs (i + 1)) := by
  obtain ⟨v, h1, hv⟩ := hf.2 i hi
  have hlen := hf.1
  have a1 : ((i : Int) < (vs.length : Int)) = True := by simp; omega
  have e1 : valE vs (i + 1) = valE vs i ++ [.agg [.int .i64 ((i + 1 : Nat) : Int), v]] := by
    have : vs.getD i .undef = v := by rw [List.getD_eq_getElem?_getD, h1]; rfl
    rw [valE_succ, this, fieldV]
  have e2 := valE_length vs i
  have a2 : ((i + 1) * 32 ≤ roomBytes) = True := by simp only [roomBytes, eq_iff_iff, iff_true]; omega
  simp (maxSteps := 10000000) (disch := first | decide | omega | assumption | rfl | (simp only [List.length_set, List.length_append, List.length_take, List.length_drop, List.length_cons, List.length_nil]; omega)) only [go_sem, Nat.reduceAdd, Nat.reduceSub, Nat.reduceMul, Nat.reduceEqDiff, Nat.reduceLT, Nat.reduceLeDiff, Nat.reduceMod, Nat.reduceDiv, Nat.reduceBEq, Int.reduceLE, Int.reduceEq, Int.reduceLT, Int.reduceToNat, Int.reduceAdd, Int.reduceSub, Int.reduceNeg, reduceIte, reduceCtorEq, Int.reduceMul, l_ticket_value_0, valC, a1, a2, e1, e2, h1, isB_len hv, isB_view hv, isB_deep hv, isB_hands hv, isB_ren hv, isB_width hv, isB_cells hv, isB_sto hv, isB_one hv, isB_at hv, xParts, xPartsD, setParts, List.cons_ne_nil, ofNs_ne, splices, spliceL, List.take_zero, List.take_nil, List.take_succ_cons]
  all_goals rfl
theorem value_loop (n : Nat) (vs : List V) (ls : List (List UInt8)) (hf : AllB vs ls) (h0 : 0 < ls.length) (hl : ls.length < 1000000) :
    fromHead (callN D n) D.lend D.gl [3, 8, 9, 10] l_ticket_value_0 (some (valC0 vs)) = some (.exit 0, ⟨envOf 29 [(3, .hs 0 0 vs.length), (8, .sl vs 1), (9, .int .i64 vs.length), (10, .int .i64 vs.length), (11, .bool false)], [(0, .row (valE vs vs.length) 2)], 2, 0⟩) := by
  have hlen := hf.1
  refine x_loop (fun i => if i = 0 then valC0 vs else valC vs i) vs.length (by simp) (by simp [loopFuel]; omega) (fun i hi => ?_) ?_
  · by_cases hi0 : i = 0
    · subst hi0
      simp only [if_true, Nat.zero_add, Nat.one_ne_zero, if_false]
      exact value_round0 D hD n vs ls hf h0
    · simp only [hi0, if_false, Nat.add_one_ne_zero]
      exact value_round D hD n vs ls hf i (by omega) hl
  · have h0' : (vs.length = 0) = False := by simp; intro h; simp [h] at hlen; omega
    simp only [h0', if_false]
    simp (maxSteps := 10000000) (disch := first | decide | omega | assumption | rfl | (simp only [List.length_set, List.length_append, List.length_take, List.length_drop, List.length_cons, List.length_nil]; omega)) only [go_sem, Nat.reduceAdd, Nat.reduceSub, Nat.reduceMul, Nat.reduceEqDiff, Nat.reduceLT, Nat.reduceLeDiff, Nat.reduceMod, Nat.reduceDiv, Nat.reduceBEq, Int.reduceLE, Int.reduceEq, Int.reduceLT, Int.reduceToNat, Int.reduceAdd, Int.reduceSub, Int.reduceNeg, reduceIte, reduceCtorEq, Int.reduceMul, l_ticket_value_0, valC]
    all_goals rfl
theorem c_ticket_value (n : Nat) (vs : List V) (ls : List (List UInt8)) (hf : AllB vs ls) (h0 : 0 < ls.length) (hl : ls.length ≤ 256) (hc : ChkOk (fldsOf ls)) :
    callN D (n + 3) n_ticket_value [.sl vs 1] [] = some (.hs 0 0 (putS (fldsOf ls)).length, [(0, .row (bytesV (putS (fldsOf ls))) 1)]) := by
  have hlp := value_loop D hD (n + 2) vs ls hf h0 (by omega)
  have hck := c_wire_Put D hD n (valE vs vs.length) (fldsOf ls) (valE_fld hf) (by rw [fldsOf_length]; exact h0) (by rw [fldsOf_length]; exact hl) hc
  have e2 := valE_length vs vs.length
  refine call_fn (hD _ _ fn_ticket_value) (run_ret (s := ?ss) ?hh ?kk)
  case hh =>
    simp (maxSteps := 10000000) (disch := first | decide | omega | assumption | rfl | (simp only [List.length_set, List.length_append, List.length_take, List.length_drop, List.length_cons, List.length_nil]; omega)) only [go_sem, Nat.reduceAdd, Nat.reduceSub, Nat.reduceMul, Nat.reduceEqDiff, Nat.reduceLT, Nat.reduceLeDiff, Nat.reduceMod, Nat.reduceDiv, Nat.reduceBEq, Int.reduceLE, Int.reduceEq, Int.reduceLT, Int.reduceToNat, Int.reduceAdd, Int.reduceSub, Int.reduceNeg, reduceIte, reduceCtorEq, Int.reduceMul, valC0] at hlp
    simp (maxSteps := 10000000) (disch := first | decide | omega | assumption | rfl | (simp only [List.length_set, List.length_append, List.length_take, List.length_drop, List.length_cons, List.length_nil]; omega)) only [go_sem, Nat.reduceAdd, Nat.reduceSub, Nat.reduceMul, Nat.reduceEqDiff, Nat.reduceLT, Nat.reduceLeDiff, Nat.reduceMod, Nat.reduceDiv, Nat.reduceBEq, Int.reduceLE, Int.reduceEq, Int.reduceLT, Int.reduceToNat, Int.reduceAdd, Int.reduceSub, Int.reduceNeg, reduceIte, reduceCtorEq, Int.reduceMul, d_ticket_value, lend_of hD fn_wire_Put, d_wire_Put, hck, hlp, e2]
    all_goals with_reducible rfl
  case kk =>
    simp (maxSteps := 10000000) (disch := first | decide | omega | assumption | rfl | (simp only [List.length_set, List.length_append, List.length_take, List.length_drop, List.length_cons, List.length_nil]; omega)) only [go_sem, Nat.reduceAdd, Nat.reduceSub, Nat.reduceMul, Nat.reduceEqDiff, Nat.reduceLT, Nat.reduceLeDiff, Nat.reduceMod, Nat.reduceDiv, Nat.reduceBEq, Int.reduceLE, Int.reduceEq, Int.reduceLT, Int.reduceToNat, Int.reduceAdd, Int.reduceSub, Int.reduceNeg, reduceIte, reduceCtorEq, Int.reduceMul, d_ticket_value]
end Go.Dm.T
