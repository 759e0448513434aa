/- Contracts of the digests' functions. -/
import Derived.Test.YtllfbfkjbhpfeaaGreatDoorTb
import Derived.Test.YtllfbfkjbhpfeaaGreatDoorDc
import Derived.KernelRfl
set_option linter.unusedSimpArgs false
set_option linter.unusedVariables false
set_option linter.unusedSectionVars false
set_option linter.unusedSimpArgs false
set_option linter.unusedVariables false
set_option linter.unusedSectionVars false
namespace Go.Dm.T
open Go.Dm
theorem lend_of {D : DProg} (hD : ∀ f F, fnT f = some F → D.fn f = some F) {f : Nat} {F : DFun} (h : fnT f = some F) : D.lend f = F.lend := by simp only [DProg.lend, hD f F h, Option.map_some, Option.getD_some]

/-- Bytes that nobody writes. -/
def IsB (v : V) (l : List UInt8) : Prop := v = .sl (bytesV l) 1 ∨ (v = .nils ∧ l = [])
theorem isB_sl (l : List UInt8) : IsB (.sl (bytesV l) 1) l := .inl rfl
theorem isB_nil : IsB .nils [] := .inr ⟨rfl, rfl⟩
section
variable {v : V} {l : List UInt8} (h : IsB v l)
include h
theorem isB_len : lenV v = some l.length := by
  rcases h with rfl | ⟨rfl, rfl⟩
  · simp only [lenV, bytesV_length]
  · rfl
theorem isB_view (g : Nat → Option Obj) : viewL g 1 v = some (bytesV l) := by
  rcases h with rfl | ⟨rfl, rfl⟩
  · simp only [viewL, true_or, if_true]
  · rfl
theorem isB_deep (g : Nat → Option Obj) (n : Nat) : deep g (n + 1) v = some (v, []) := by rcases h with rfl | ⟨rfl, rfl⟩ <;> rfl
theorem isB_hands (ns : List Nat) : hands ns v = ns := by rcases h with rfl | ⟨rfl, rfl⟩ <;> rfl
theorem isB_ren (f : Nat → Option Nat) : ren f v = some v := by rcases h with rfl | ⟨rfl, rfl⟩ <;> rfl
theorem isB_width : v.width = 1 := by rcases h with rfl | ⟨rfl, rfl⟩ <;> rfl
theorem isB_cells : v.cells = [v] := by rcases h with rfl | ⟨rfl, rfl⟩ <;> rfl
theorem isB_sto : v.sto = true := by rcases h with rfl | ⟨rfl, rfl⟩ <;> rfl
theorem isB_one : v.one = true := by rcases h with rfl | ⟨rfl, rfl⟩ <;> rfl
theorem isB_at (g : Nat → Option Obj) (i : Nat) (hi : i < l.length) : iaddrV g none 1 i v = some (.pt [.int .u8 ((l.getD i 0).toNat : Int)]) := by
  rcases h with rfl | ⟨rfl, rfl⟩
  · simp only [iaddrV, and_self, if_true, bytesV_at hi, V.cells]
  · simp at hi
end
def cutV (v : V) (lo hi : Nat) : V := match v with
  | .sl es s => .sl ((es.take hi).drop lo) s
  | v => v
theorem isB_cut {v : V} {l : List UInt8} (h : IsB v l) (lo hi : Nat) : IsB (cutV v lo hi) ((l.take hi).drop lo) := by
  rcases h with rfl | ⟨rfl, rfl⟩
  · left; simp only [cutV, bytesV_take, bytesV_drop]
  · right; simp [cutV]
theorem isB_slc {v : V} {l : List UInt8} (h : IsB v l) (g : Nat → Option Obj) (lo hi : Nat) (h1 : lo ≤ hi) (h2 : hi ≤ l.length) : slcLV g 1 v lo (some hi) = some (cutV v lo hi) := by
  rcases h with rfl | ⟨rfl, rfl⟩
  · simp only [slcLV, if_true, Option.getD_some, bytesV_length, h1, h2, and_self, cutV]
  · have : hi = 0 := by simpa using h2
    subst this
    have : lo = 0 := by omega
    subst this
    rfl
theorem isB_slc0 {v : V} {l : List UInt8} (h : IsB v l) (g : Nat → Option Obj) (lo : Nat) (h1 : lo ≤ l.length) : slcLV g 1 v lo none = some (cutV v lo l.length) := by
  rcases h with rfl | ⟨rfl, rfl⟩
  · simp only [slcLV, if_true, Option.getD_none, bytesV_length, h1, Nat.le_refl, and_self, cutV]
  · have : lo = 0 := by simpa using h1
    subst this
    rfl
theorem spliceL_bytes (a b : List UInt8) (o : Nat) : spliceL (bytesV a) o (bytesV b) = bytesV (spliceL a o b) := by
  simp only [spliceL, bytesV_length, bytesV_take, bytesV_drop, bytesV_append]
end Go.Dm.T
set_option linter.unusedSimpArgs false
set_option linter.unusedVariables false
set_option linter.unusedSectionVars false
namespace Go.Dm.T
open Go.Dm
variable (D : DProg) (hD : ∀ f F, fnT f = some F → D.fn f = some F)
include hD

theorem c_rotl (n : Nat) (x : UInt32) (k : Int) (s : Nat) (hs : bitsV .and .u64 (IntKind.u64.wrap k) 31 = s) (h0 : 0 < s) (h1 : s < 32) :
    callN D (n + 1) n_math_bits_RotateLeft32 [.int .u32 x.toNat, .int .i64 k] [] = some (.int .u32 (x <<< UInt32.ofInt s ||| x >>> UInt32.ofInt ((32 - s : Nat) : Int)).toNat, []) := by
  have e1 : binV .and (.int .u64 (IntKind.u64.wrap k)) (.int .u64 31) = some (.int .u64 s) := by rw [← hs]; rfl
  have e2 : binV .sub (.int .u64 32) (.int .u64 (s : Int)) = some (.int .u64 ((32 - s : Nat) : Int)) := by
    simp only [binV, isShift, binI, Bool.false_eq_true, if_false, if_true]
    rw [wrap_of_lt rfl (by omega) (by simp only [IntKind.bits]; omega)]
    congr 2; omega
  refine call_fn (hD _ _ fn_math_bits_RotateLeft32) (run_ret (s := ?ss) ?hh ?kk)
  case hh =>
    simp (maxSteps := 10000000) (disch := first | decide | omega | assumption | rfl | (simp only [List.length_set, List.length_append, List.length_take, List.length_drop, List.length_cons, List.length_nil]; omega)) only [go_sem, Nat.reduceAdd, Nat.reduceSub, Nat.reduceMul, Nat.reduceEqDiff, Nat.reduceLT, Nat.reduceLeDiff, Nat.reduceMod, Nat.reduceDiv, Nat.reduceBEq, Int.reduceLE, Int.reduceEq, Int.reduceLT, Int.reduceToNat, Int.reduceAdd, Int.reduceSub, Int.reduceNeg, reduceIte, reduceCtorEq, Int.reduceMul, d_math_bits_RotateLeft32, e1, e2, bin32_shl, bin32_shr, bin32_mul, bin32_xor, bin32_and, bin32_or, bin32_add, bin32_sub, wrap32, un32_not]
    all_goals with_reducible rfl
  case kk => rfl
def ror32 (x : UInt32) (c : Nat) : UInt32 := x <<< UInt32.ofInt ((32 - c : Nat) : Int) ||| x >>> UInt32.ofInt (c : Int)
omit hD in
theorem ror_amount : ∀ c : Nat, c < 32 → 0 < c → bitsV .and .u64 (IntKind.u64.wrap (IntKind.i64.wrap (0 - (c : Int)))) 31 = ((32 - c : Nat) : Int) := by decide
theorem c_sha_right (n : Nat) (x : UInt32) (c : Int) (h0 : 0 < c) (h1 : c < 32) :
    callN D (n + 2) n_sha_right [.int .u32 x.toNat, .int .i64 c] [] = some (.int .u32 (ror32 x c.toNat).toNat, []) := by
  obtain ⟨m, rfl⟩ := Int.eq_ofNat_of_zero_le (by omega : 0 ≤ c)
  have hr := c_rotl D hD n x (IntKind.i64.wrap (0 - (m : Int))) (32 - m) (ror_amount m (by omega) (by omega)) (by omega) (by omega)
  rw [show 32 - (32 - m) = m by omega] at hr
  refine call_fn (hD _ _ fn_sha_right) (run_ret (s := ?ss) ?hh ?kk)
  case hh =>
    simp (maxSteps := 10000000) (disch := first | decide | omega | assumption | rfl | (simp only [List.length_set, List.length_append, List.length_take, List.length_drop, List.length_cons, List.length_nil]; omega)) only [go_sem, Nat.reduceAdd, Nat.reduceSub, Nat.reduceMul, Nat.reduceEqDiff, Nat.reduceLT, Nat.reduceLeDiff, Nat.reduceMod, Nat.reduceDiv, Nat.reduceBEq, Int.reduceLE, Int.reduceEq, Int.reduceLT, Int.reduceToNat, Int.reduceAdd, Int.reduceSub, Int.reduceNeg, reduceIte, reduceCtorEq, Int.reduceMul, d_sha_right, lend_of hD fn_math_bits_RotateLeft32, d_math_bits_RotateLeft32, hr]
    all_goals with_reducible rfl
  case kk => rfl

def sig0 (x : UInt32) : UInt32 := ror32 x 7 ^^^ ror32 x 18 ^^^ x >>> 3
def sig1 (x : UInt32) : UInt32 := ror32 x 17 ^^^ ror32 x 19 ^^^ x >>> 10
def be32 (a b c d : UInt8) : UInt32 := UInt32.ofInt a.toNat <<< 24 ||| UInt32.ofInt b.toNat <<< 16 ||| UInt32.ofInt c.toNat <<< 8 ||| UInt32.ofInt d.toNat
def wordsStep (b : List UInt8) (i : Nat) (w : List UInt32) : List UInt32 :=
  if i < 16 then w.set i (be32 (b.getD (4 * i) 0) (b.getD (4 * i + 1) 0) (b.getD (4 * i + 2) 0) (b.getD (4 * i + 3) 0))
  else w.set i (w.getD (i - 16) 0 + sig0 (w.getD (i - 15) 0) + w.getD (i - 7) 0 + sig1 (w.getD (i - 2) 0))
def wordsC (b : List UInt8) (z : List V) (w : List UInt32) (i : Nat) : St := ⟨envOf 83 [(1, .hp 0 0 0), (2, .hp 1 0 0), (3, .hp 2 0 0), (10, .int .i64 i)], [(0, .row (bytesV b) 1), (1, .row z 1), (2, .row (wordsV w) 1)], 3, 0⟩
theorem words_round (n : Nat) (b : List UInt8) (z : List V) (w : List UInt32) (i : Nat) (hi : i < 64) (hb : b.length = 64) (hw : w.length = 64) :
    round (exec (callN D (n + 2)) D.lend D.gl l_sha_words_0) (canon [1, 2, 3, 10]) (wordsC b z w i) = some (wordsC b z (wordsStep b i w) (i + 1)) := by
  have a1 : ((i : Int) < 64) = True := by simp; omega
  by_cases h16 : i < 16
  · have a2 : ((i : Int) < 16) = True := by simp; omega
    have a3 : (4 * i ≤ 64) = True := by simp; omega
    have a4 : ∀ j, j < 4 → (j < 64 - 4 * i) = True := by intro j hj; simp; omega
    have a6 : (i < 64) = True := by simp; omega
    have e : wordsStep b i w = w.set i (be32 (b.getD (4 * i) 0) (b.getD (4 * i + 1) 0) (b.getD (4 * i + 2) 0) (b.getD (4 * i + 3) 0)) := if_pos h16
    simp (maxSteps := 10000000) (disch := first | decide | omega | assumption | rfl | (simp only [List.length_set, List.length_append, List.length_take, List.length_drop, List.length_cons, List.length_nil]; omega)) only [go_sem, Nat.reduceAdd, Nat.reduceSub, Nat.reduceMul, Nat.reduceEqDiff, Nat.reduceLT, Nat.reduceLeDiff, Nat.reduceMod, Nat.reduceDiv, Nat.reduceBEq, Int.reduceLE, Int.reduceEq, Int.reduceLT, Int.reduceToNat, Int.reduceAdd, Int.reduceSub, Int.reduceNeg, reduceIte, reduceCtorEq, Int.reduceMul, l_sha_words_0, wordsC, a1, a2, a3, a4, a6, hb, hw, decide_true, wrap_muln, bytesV_at, wordsV_at, bin32_shl, bin32_shr, bin32_mul, bin32_xor, bin32_and, bin32_or, bin32_add, bin32_sub, wrap32, un32_not, e]
    all_goals rfl
  · have a2 : ((i : Int) < 16) = False := by simp; omega
    have a3 : ∀ j, 0 < j → j ≤ 16 → (i - j < 64) = True := by intro j _ _; simp; omega
    have a6 : (i < 64) = True := by simp; omega
    have e : wordsStep b i w = w.set i (w.getD (i - 16) 0 + sig0 (w.getD (i - 15) 0) + w.getD (i - 7) 0 + sig1 (w.getD (i - 2) 0)) := if_neg h16
    simp (maxSteps := 10000000) (disch := first | decide | omega | assumption | rfl | (simp only [List.length_set, List.length_append, List.length_take, List.length_drop, List.length_cons, List.length_nil]; omega)) only [go_sem, Nat.reduceAdd, Nat.reduceSub, Nat.reduceMul, Nat.reduceEqDiff, Nat.reduceLT, Nat.reduceLeDiff, Nat.reduceMod, Nat.reduceDiv, Nat.reduceBEq, Int.reduceLE, Int.reduceEq, Int.reduceLT, Int.reduceToNat, Int.reduceAdd, Int.reduceSub, Int.reduceNeg, reduceIte, reduceCtorEq, Int.reduceMul, l_sha_words_0, wordsC, a1, a2, a3, a6, hb, hw, decide_true, decide_false, wrap_subn, bytesV_at, wordsV_at, bin32_shl, bin32_shr, bin32_mul, bin32_xor, bin32_and, bin32_or, bin32_add, bin32_sub, wrap32, un32_not, e, lend_of hD fn_sha_right, d_sha_right, c_sha_right D hD]
    all_goals rfl
def wordsS (b : List UInt8) : List UInt32 := upTo (wordsStep b) 64 (List.replicate 64 0)
omit hD in
theorem wordsStep_length (b : List UInt8) (i : Nat) (w : List UInt32) : (wordsStep b i w).length = w.length := by
  unfold wordsStep; split <;> simp
omit hD in
theorem words_length (b : List UInt8) (w : List UInt32) (n : Nat) : (upTo (wordsStep b) n w).length = w.length :=
  upTo_inv (fun (l : List UInt32) => l.length = w.length) rfl fun i _ l hl => by rw [wordsStep_length, hl]
theorem words_loop (n : Nat) (b : List UInt8) (z : List V) (hb : b.length = 64) :
    fromHead (callN D (n + 2)) D.lend D.gl [1, 2, 3, 10] l_sha_words_0 (some (wordsC b z (List.replicate 64 0) 0)) = some (.exit 0, ⟨(envOf 83 [(1, .hp 0 0 0), (2, .hp 1 0 0), (3, .hp 2 0 0), (10, .int .i64 64), (11, .bool false)]), [(0, .row (bytesV b) 1), (1, .row z 1), (2, .row (wordsV (wordsS b)) 1)], 4, 0⟩) := by
  refine x_loop (fun i => wordsC b z (upTo (wordsStep b) i (List.replicate 64 0)) i) 64 (by simp) (by simp [loopFuel]) (fun i hi => ?_) ?_
  · exact words_round D hD n b z _ i hi hb (by rw [words_length]; rfl)
  · simp (maxSteps := 10000000) (disch := first | decide | omega | assumption | rfl | (simp only [List.length_set, List.length_append, List.length_take, List.length_drop, List.length_cons, List.length_nil]; omega)) only [go_sem, Nat.reduceAdd, Nat.reduceSub, Nat.reduceMul, Nat.reduceEqDiff, Nat.reduceLT, Nat.reduceLeDiff, Nat.reduceMod, Nat.reduceDiv, Nat.reduceBEq, Int.reduceLE, Int.reduceEq, Int.reduceLT, Int.reduceToNat, Int.reduceAdd, Int.reduceSub, Int.reduceNeg, reduceIte, reduceCtorEq, Int.reduceMul, l_sha_words_0, wordsC, wordsS]
    all_goals rfl
theorem c_sha_words (n : Nat) (b : List UInt8) (hb : b.length = 64) : callN D (n + 3) n_sha_words [.agg (bytesV b)] [] = some (.agg (wordsV (wordsS b)), []) := by
  have hw : (wordsS b).length = 64 := by rw [wordsS, words_length]; rfl
  refine call_fn (hD _ _ fn_sha_words) (run_ret (s := ?ss) ?hh ?kk)
  case hh =>
    have hw0 : (List.replicate 64 (0 : UInt32)).length = 64 := rfl
    have hl := words_loop D hD n b (wordsV (List.replicate 64 0)) hb
    simp (maxSteps := 10000000) (disch := first | decide | omega | assumption | rfl | (simp only [List.length_set, List.length_append, List.length_take, List.length_drop, List.length_cons, List.length_nil]; omega)) only [go_sem, Nat.reduceAdd, Nat.reduceSub, Nat.reduceMul, Nat.reduceEqDiff, Nat.reduceLT, Nat.reduceLeDiff, Nat.reduceMod, Nat.reduceDiv, Nat.reduceBEq, Int.reduceLE, Int.reduceEq, Int.reduceLT, Int.reduceToNat, Int.reduceAdd, Int.reduceSub, Int.reduceNeg, reduceIte, reduceCtorEq, Int.reduceMul, wordsC] at hl
    simp (maxSteps := 10000000) (disch := first | decide | omega | assumption | rfl | (simp only [List.length_set, List.length_append, List.length_take, List.length_drop, List.length_cons, List.length_nil]; omega)) only [go_sem, Nat.reduceAdd, Nat.reduceSub, Nat.reduceMul, Nat.reduceEqDiff, Nat.reduceLT, Nat.reduceLeDiff, Nat.reduceMod, Nat.reduceDiv, Nat.reduceBEq, Int.reduceLE, Int.reduceEq, Int.reduceLT, Int.reduceToNat, Int.reduceAdd, Int.reduceSub, Int.reduceNeg, reduceIte, reduceCtorEq, Int.reduceMul, d_sha_words, hl, hb, hw]
    all_goals with_reducible rfl
  case kk =>
    simp (maxSteps := 10000000) (disch := first | decide | omega | assumption | rfl | (simp only [List.length_set, List.length_append, List.length_take, List.length_drop, List.length_cons, List.length_nil]; omega)) only [go_sem, Nat.reduceAdd, Nat.reduceSub, Nat.reduceMul, Nat.reduceEqDiff, Nat.reduceLT, Nat.reduceLeDiff, Nat.reduceMod, Nat.reduceDiv, Nat.reduceBEq, Int.reduceLE, Int.reduceEq, Int.reduceLT, Int.reduceToNat, Int.reduceAdd, Int.reduceSub, Int.reduceNeg, reduceIte, reduceCtorEq, Int.reduceMul, d_sha_words, hw]

structure W8 where
  a : UInt32
  b : UInt32
  c : UInt32
  d : UInt32
  e : UInt32
  f : UInt32
  g : UInt32
  h : UInt32
def shaT1 (k w : UInt32) (s : W8) : UInt32 := s.h + (ror32 s.e 6 ^^^ ror32 s.e 11 ^^^ ror32 s.e 25) + (s.e &&& s.f ^^^ ~~~s.e &&& s.g) + k + w
def shaT2 (s : W8) : UInt32 := (ror32 s.a 2 ^^^ ror32 s.a 13 ^^^ ror32 s.a 22) + (s.a &&& s.b ^^^ s.a &&& s.c ^^^ s.b &&& s.c)
def blockStep (K w : List UInt32) (i : Nat) (s : W8) : W8 :=
  ⟨shaT1 (K.getD i 0) (w.getD i 0) s + shaT2 s, s.a, s.b, s.c, s.d + shaT1 (K.getD i 0) (w.getD i 0) s, s.e, s.f, s.g⟩
def blockC (st w K : List UInt32) (z : List V) (s : W8) (i : Nat) : St :=
  ⟨envOf 122 [(2, .hp 0 0 0), (4, .hp 1 0 0), (5, .hp 2 0 0), (6, .int .u32 s.a.toNat), (7, .int .u32 s.b.toNat), (8, .int .u32 s.c.toNat), (9, .int .u32 s.d.toNat), (10, .int .u32 s.e.toNat), (11, .int .u32 s.f.toNat), (12, .int .u32 s.g.toNat), (13, .int .u32 s.h.toNat), (38, .agg (wordsV K)), (39, .int .i64 i)],
   [(0, .row (wordsV st) 1), (1, .row z 1), (2, .row (wordsV w) 1)], 3, 0⟩
theorem block_round (n : Nat) (st w K : List UInt32) (z : List V) (s : W8) (i : Nat) (hi : i < 64) (hw : w.length = 64) (hK : K.length = 64) :
    round (exec (callN D (n + 2)) D.lend D.gl l_sha_Block_0) (canon [2, 4, 5, 6, 7, 8, 9, 10, 11, 12, 13, 38, 39]) (blockC st w K z s i) = some (blockC st w K z (blockStep K w i s) (i + 1)) := by
  have a1 : ((i : Int) < 64) = True := by simp; omega
  have a6 : (i < 64) = True := by simp; omega
  simp (maxSteps := 10000000) (disch := first | decide | omega | assumption | rfl | (simp only [List.length_set, List.length_append, List.length_take, List.length_drop, List.length_cons, List.length_nil]; omega)) only [go_sem, Nat.reduceAdd, Nat.reduceSub, Nat.reduceMul, Nat.reduceEqDiff, Nat.reduceLT, Nat.reduceLeDiff, Nat.reduceMod, Nat.reduceDiv, Nat.reduceBEq, Int.reduceLE, Int.reduceEq, Int.reduceLT, Int.reduceToNat, Int.reduceAdd, Int.reduceSub, Int.reduceNeg, reduceIte, reduceCtorEq, Int.reduceMul, l_sha_Block_0, blockC, blockStep, a1, a6, hw, hK, decide_true, wordsV_at, bin32_shl, bin32_shr, bin32_mul, bin32_xor, bin32_and, bin32_or, bin32_add, bin32_sub, wrap32, un32_not, lend_of hD fn_sha_right, d_sha_right, c_sha_right D hD]
  all_goals rfl
def addStep (xs : List UInt32) (i : Nat) (st : List UInt32) : List UInt32 := st.set i (st.getD i 0 + xs.getD i 0)
def addC (st xs : List UInt32) (z : List V) (i : Nat) : St := ⟨envOf 122 [(2, .hp 0 0 0), (4, .hp 1 0 0), (109, .agg (wordsV xs)), (110, .int .i64 i)], [(0, .row (wordsV st) 1), (1, .row z 1)], 2, 0⟩
theorem add_round (n : Nat) (st xs : List UInt32) (z : List V) (i : Nat) (hi : i < 8) (hs : st.length = 8) (hx : xs.length = 8) :
    round (exec (callN D (n + 2)) D.lend D.gl l_sha_Block_1) (canon [2, 4, 109, 110]) (addC st xs z i) = some (addC (addStep xs i st) xs z (i + 1)) := by
  have a1 : ((i : Int) < 8) = True := by simp; omega
  have a6 : (i < 8) = True := by simp; omega
  simp (maxSteps := 10000000) (disch := first | decide | omega | assumption | rfl | (simp only [List.length_set, List.length_append, List.length_take, List.length_drop, List.length_cons, List.length_nil]; omega)) only [go_sem, Nat.reduceAdd, Nat.reduceSub, Nat.reduceMul, Nat.reduceEqDiff, Nat.reduceLT, Nat.reduceLeDiff, Nat.reduceMod, Nat.reduceDiv, Nat.reduceBEq, Int.reduceLE, Int.reduceEq, Int.reduceLT, Int.reduceToNat, Int.reduceAdd, Int.reduceSub, Int.reduceNeg, reduceIte, reduceCtorEq, Int.reduceMul, l_sha_Block_1, addC, addStep, a1, a6, hs, hx, decide_true, wordsV_at, bin32_shl, bin32_shr, bin32_mul, bin32_xor, bin32_and, bin32_or, bin32_add, bin32_sub, wrap32, un32_not]
  all_goals rfl

def shaK : List UInt32 := [1116352408, 1899447441, 3049323471, 3921009573, 961987163, 1508970993, 2453635748, 2870763221, 3624381080, 310598401, 607225278, 1426881987, 1925078388, 2162078206, 2614888103, 3248222580, 3835390401, 4022224774, 264347078, 604807628, 770255983, 1249150122, 1555081692, 1996064986, 2554220882, 2821834349, 2952996808, 3210313671, 3336571891, 3584528711, 113926993, 338241895, 666307205, 773529912, 1294757372, 1396182291, 1695183700, 1986661051, 2177026350, 2456956037, 2730485921, 2820302411, 3259730800, 3345764771, 3516065817, 3600352804, 4094571909, 275423344, 430227734, 506948616, 659060556, 883997877, 958139571, 1322822218, 1537002063, 1747873779, 1955562222, 2024104815, 2227730452, 2361852424, 2428436474, 2756734187, 3204031479, 3329325298]
def blockRun (st w : List UInt32) : W8 := upTo (blockStep shaK w) 64 ⟨st.getD 0 0, st.getD 1 0, st.getD 2 0, st.getD 3 0, st.getD 4 0, st.getD 5 0, st.getD 6 0, st.getD 7 0⟩
def w8L (s : W8) : List UInt32 := [s.a, s.b, s.c, s.d, s.e, s.f, s.g, s.h]
def blockS (st : List UInt32) (b : List UInt8) : List UInt32 := upTo (addStep (w8L (blockRun st (wordsS b)))) 8 st
omit hD in
theorem blockS_length (st : List UInt32) (b : List UInt8) : (blockS st b).length = st.length :=
  upTo_inv (fun (l : List UInt32) => l.length = st.length) rfl fun i _ l hl => by rw [addStep, List.length_set, hl]
omit hD in
theorem splice8 (R : W8) : splices [(0, 1, .int .u32 R.a.toNat), (1, 1, .int .u32 R.b.toNat), (2, 1, .int .u32 R.c.toNat), (3, 1, .int .u32 R.d.toNat), (4, 1, .int .u32 R.e.toNat), (5, 1, .int .u32 R.f.toNat), (6, 1, .int .u32 R.g.toNat), (7, 1, .int .u32 R.h.toNat)] (wordsV (List.replicate 8 0)) = some (wordsV (w8L R)) := by kernel_rfl
theorem block_loop (n : Nat) (st w : List UInt32) (z : List V) (s : W8) (hw : w.length = 64) :
    fromHead (callN D (n + 2)) D.lend D.gl [2, 4, 5, 6, 7, 8, 9, 10, 11, 12, 13, 38, 39] l_sha_Block_0 (some (blockC st w shaK z s 0)) = some (.exit 0, (fun s : W8 => ⟨envOf 122 [(2, .hp 0 0 0), (4, .hp 1 0 0), (5, .hp 2 0 0), (6, .int .u32 s.a.toNat), (7, .int .u32 s.b.toNat), (8, .int .u32 s.c.toNat), (9, .int .u32 s.d.toNat), (10, .int .u32 s.e.toNat), (11, .int .u32 s.f.toNat), (12, .int .u32 s.g.toNat), (13, .int .u32 s.h.toNat), (38, .agg (wordsV shaK)), (39, .int .i64 64), (40, .bool false)],
   [(0, .row (wordsV st) 1), (1, .row z 1), (2, .row (wordsV w) 1)], 4, 0⟩) (upTo (blockStep shaK w) 64 s)) := by
  refine x_loop (fun i => blockC st w shaK z (upTo (blockStep shaK w) i s) i) 64 (by simp) (by simp [loopFuel]) (fun i hi => ?_) ?_
  · exact block_round D hD n st w shaK z _ i hi hw rfl
  · simp (maxSteps := 10000000) (disch := first | decide | omega | assumption | rfl | (simp only [List.length_set, List.length_append, List.length_take, List.length_drop, List.length_cons, List.length_nil]; omega)) only [go_sem, Nat.reduceAdd, Nat.reduceSub, Nat.reduceMul, Nat.reduceEqDiff, Nat.reduceLT, Nat.reduceLeDiff, Nat.reduceMod, Nat.reduceDiv, Nat.reduceBEq, Int.reduceLE, Int.reduceEq, Int.reduceLT, Int.reduceToNat, Int.reduceAdd, Int.reduceSub, Int.reduceNeg, reduceIte, reduceCtorEq, Int.reduceMul, l_sha_Block_0, blockC]
theorem add_loop (n : Nat) (st xs : List UInt32) (z : List V) (hs : st.length = 8) (hx : xs.length = 8) :
    fromHead (callN D (n + 2)) D.lend D.gl [2, 4, 109, 110] l_sha_Block_1 (some (addC st xs z 0)) = some (.exit 2, ⟨envOf 122 [(2, .hp 0 0 0), (4, .hp 1 0 0), (109, .agg (wordsV xs)), (110, .int .i64 8), (111, .bool false)], [(0, .row (wordsV (upTo (addStep xs) 8 st)) 1), (1, .row z 1)], 3, 0⟩) := by
  have hl : ∀ i, (upTo (addStep xs) i st).length = 8 := fun i => upTo_inv (fun (l : List UInt32) => l.length = 8) hs fun i _ l hl => by rw [addStep, List.length_set, hl]
  refine x_loop (fun i => addC (upTo (addStep xs) i st) xs z i) 8 (by simp) (by simp [loopFuel]) (fun i hi => ?_) ?_
  · exact add_round D hD n _ xs z i hi (hl i) hx
  · simp (maxSteps := 10000000) (disch := first | decide | omega | assumption | rfl | (simp only [List.length_set, List.length_append, List.length_take, List.length_drop, List.length_cons, List.length_nil]; omega)) only [go_sem, Nat.reduceAdd, Nat.reduceSub, Nat.reduceMul, Nat.reduceEqDiff, Nat.reduceLT, Nat.reduceLeDiff, Nat.reduceMod, Nat.reduceDiv, Nat.reduceBEq, Int.reduceLE, Int.reduceEq, Int.reduceLT, Int.reduceToNat, Int.reduceAdd, Int.reduceSub, Int.reduceNeg, reduceIte, reduceCtorEq, Int.reduceMul, l_sha_Block_1, addC]
theorem c_sha_Block (hG : D.gl g_sha_constants = some (wordsV shaK)) (n : Nat) (st : List UInt32) (b : List UInt8) (hs : st.length = 8) (hb : b.length = 64) :
    callN D (n + 4) n_sha_Block [.agg (wordsV st), .agg (bytesV b)] [] = some (.agg (wordsV (blockS st b)), []) := by
  have hw : (wordsS b).length = 64 := by rw [wordsS, words_length]; rfl
  have hr : (blockS st b).length = 8 := by rw [blockS_length, hs]
  refine call_fn (hD _ _ fn_sha_Block) (run_ret (s := ?ss) ?hh ?kk)
  case hh =>
    have hl := block_loop D hD (n + 1) st (wordsS b) (wordsV (List.replicate 8 0)) ⟨st.getD 0 0, st.getD 1 0, st.getD 2 0, st.getD 3 0, st.getD 4 0, st.getD 5 0, st.getD 6 0, st.getD 7 0⟩ hw
    have hK : shaK.length = 64 := rfl
    rw [← blockRun] at hl
    have hl2 := add_loop D hD (n + 1) st (w8L (blockRun st (wordsS b))) (wordsV (List.replicate 8 0)) hs rfl
    rw [← blockS] at hl2
    simp (maxSteps := 10000000) (disch := first | decide | omega | assumption | rfl | (simp only [List.length_set, List.length_append, List.length_take, List.length_drop, List.length_cons, List.length_nil]; omega)) only [go_sem, Nat.reduceAdd, Nat.reduceSub, Nat.reduceMul, Nat.reduceEqDiff, Nat.reduceLT, Nat.reduceLeDiff, Nat.reduceMod, Nat.reduceDiv, Nat.reduceBEq, Int.reduceLE, Int.reduceEq, Int.reduceLT, Int.reduceToNat, Int.reduceAdd, Int.reduceSub, Int.reduceNeg, reduceIte, reduceCtorEq, Int.reduceMul, blockC] at hl
    simp (maxSteps := 10000000) (disch := first | decide | omega | assumption | rfl | (simp only [List.length_set, List.length_append, List.length_take, List.length_drop, List.length_cons, List.length_nil]; omega)) only [go_sem, Nat.reduceAdd, Nat.reduceSub, Nat.reduceMul, Nat.reduceEqDiff, Nat.reduceLT, Nat.reduceLeDiff, Nat.reduceMod, Nat.reduceDiv, Nat.reduceBEq, Int.reduceLE, Int.reduceEq, Int.reduceLT, Int.reduceToNat, Int.reduceAdd, Int.reduceSub, Int.reduceNeg, reduceIte, reduceCtorEq, Int.reduceMul, addC] at hl2
    simp (maxSteps := 10000000) (disch := first | decide | omega | assumption | rfl | (simp only [List.length_set, List.length_append, List.length_take, List.length_drop, List.length_cons, List.length_nil]; omega)) only [go_sem, Nat.reduceAdd, Nat.reduceSub, Nat.reduceMul, Nat.reduceEqDiff, Nat.reduceLT, Nat.reduceLeDiff, Nat.reduceMod, Nat.reduceDiv, Nat.reduceBEq, Int.reduceLE, Int.reduceEq, Int.reduceLT, Int.reduceToNat, Int.reduceAdd, Int.reduceSub, Int.reduceNeg, reduceIte, reduceCtorEq, Int.reduceMul, d_sha_Block, hl, hl2, hb, hw, hs, hr, hK, hG, splice8, wordsV_at, lend_of hD fn_sha_words, d_sha_words, c_sha_words D hD]
    all_goals with_reducible rfl
  case kk =>
    simp (maxSteps := 10000000) (disch := first | decide | omega | assumption | rfl | (simp only [List.length_set, List.length_append, List.length_take, List.length_drop, List.length_cons, List.length_nil]; omega)) only [go_sem, Nat.reduceAdd, Nat.reduceSub, Nat.reduceMul, Nat.reduceEqDiff, Nat.reduceLT, Nat.reduceLeDiff, Nat.reduceMod, Nat.reduceDiv, Nat.reduceBEq, Int.reduceLE, Int.reduceEq, Int.reduceLT, Int.reduceToNat, Int.reduceAdd, Int.reduceSub, Int.reduceNeg, reduceIte, reduceCtorEq, Int.reduceMul, d_sha_Block, hr]
end Go.Dm.T
set_option linter.unusedSimpArgs false
set_option linter.unusedVariables false
set_option linter.unusedSectionVars false
namespace Go.Dm.T
open Go.Dm
variable (D : DProg) (hD : ∀ f F, fnT f = some F → D.fn f = some F)
include hD

def pxStep (x : UInt8) (i : Nat) (k : List UInt8) : List UInt8 := k.set i (k.getD i 0 ^^^ x)
def padded (l : List UInt8) : List UInt8 := spliceL (List.replicate 64 0) 0 (l.take 64)
def paddedS (l : List UInt8) (x : UInt8) : List UInt8 := upTo (pxStep x) 64 (padded l)
omit hD in
theorem padded_length (l : List UInt8) : (padded l).length = 64 := by
  simp only [padded, spliceL, List.length_append, List.length_take, List.length_drop, List.length_replicate]; omega
omit hD in
theorem px_len (x : UInt8) (k : List UInt8) (n : Nat) : (upTo (pxStep x) n k).length = k.length :=
  upTo_inv (fun (l : List UInt8) => l.length = k.length) rfl fun i _ l hl => by rw [pxStep, List.length_set, hl]
omit hD in
theorem paddedS_length (l : List UInt8) (x : UInt8) : (paddedS l x).length = 64 := by rw [paddedS, px_len, padded_length]
def padC (k : List UInt8) (x : UInt8) (i : Nat) : St := ⟨envOf 29 [(1, .int .u8 x.toNat), (5, .hp 0 0 0), (18, .int .i64 i)], [(0, .row (bytesV k) 1)], 1, 0⟩
theorem pad_round (n : Nat) (k : List UInt8) (x : UInt8) (i : Nat) (hi : i < 64) (hk : k.length = 64) :
    round (exec (callN D n) D.lend D.gl l_mac_padded_0) (canon [1, 5, 18]) (padC k x i) = some (padC (pxStep x i k) x (i + 1)) := by
  have a1 : ((i : Int) < 64) = True := by simp; omega
  have a6 : (i < 64) = True := by simp; omega
  simp (maxSteps := 10000000) (disch := first | decide | omega | assumption | rfl | (simp only [List.length_set, List.length_append, List.length_take, List.length_drop, List.length_cons, List.length_nil]; omega)) only [go_sem, Nat.reduceAdd, Nat.reduceSub, Nat.reduceMul, Nat.reduceEqDiff, Nat.reduceLT, Nat.reduceLeDiff, Nat.reduceMod, Nat.reduceDiv, Nat.reduceBEq, Int.reduceLE, Int.reduceEq, Int.reduceLT, Int.reduceToNat, Int.reduceAdd, Int.reduceSub, Int.reduceNeg, reduceIte, reduceCtorEq, Int.reduceMul, l_mac_padded_0, padC, pxStep, a1, a6, hk, bytesV_at, bin8_shl, bin8_shr, bin8_mul, bin8_xor, bin8_and, bin8_or, bin8_add, bin8_sub, wrap8, un8_not]
  all_goals rfl
theorem pad_loop (n : Nat) (k : List UInt8) (x : UInt8) (hk : k.length = 64) :
    fromHead (callN D n) D.lend D.gl [1, 5, 18] l_mac_padded_0 (some (padC k x 0)) = some (.exit 3, ⟨envOf 29 [(1, .int .u8 x.toNat), (5, .hp 0 0 0), (18, .int .i64 64), (19, .bool false)], [(0, .row (bytesV (upTo (pxStep x) 64 k)) 1)], 2, 0⟩) := by
  refine x_loop (fun i => padC (upTo (pxStep x) i k) x i) 64 (by simp) (by simp [loopFuel]) (fun i hi => ?_) ?_
  · exact pad_round D hD n (upTo (pxStep x) i k) x i hi (by rw [px_len, hk])
  · simp (maxSteps := 10000000) (disch := first | decide | omega | assumption | rfl | (simp only [List.length_set, List.length_append, List.length_take, List.length_drop, List.length_cons, List.length_nil]; omega)) only [go_sem, Nat.reduceAdd, Nat.reduceSub, Nat.reduceMul, Nat.reduceEqDiff, Nat.reduceLT, Nat.reduceLeDiff, Nat.reduceMod, Nat.reduceDiv, Nat.reduceBEq, Int.reduceLE, Int.reduceEq, Int.reduceLT, Int.reduceToNat, Int.reduceAdd, Int.reduceSub, Int.reduceNeg, reduceIte, reduceCtorEq, Int.reduceMul, l_mac_padded_0, padC]
theorem c_mac_padded (n : Nat) (v : V) (l : List UInt8) (x : UInt8) (hv : IsB v l) (hl : l.length ≤ 64) :
    callN D (n + 1) n_mac_padded [v, .int .u8 x.toNat] [] = some (.hs 0 0 64, [(0, .row (bytesV (paddedS l x)) 1)]) := by
  have a1 : ((64 : Int) < (l.length : Int)) = False := by simp; omega
  have hp := padded_length l
  have hs := paddedS_length l x
  have hlp := pad_loop D hD n (padded l) x hp
  rw [← paddedS] at hlp
  have e1 : spliceL (bytesV (List.replicate 64 0)) 0 (bytesV l) = bytesV (padded l) := by rw [spliceL_bytes, padded, List.take_of_length_le hl]
  refine call_fn (hD _ _ fn_mac_padded) (run_ret (s := ?ss) ?hh ?kk)
  case hh =>
    simp (maxSteps := 10000000) (disch := first | decide | omega | assumption | rfl | (simp only [List.length_set, List.length_append, List.length_take, List.length_drop, List.length_cons, List.length_nil]; omega)) only [go_sem, Nat.reduceAdd, Nat.reduceSub, Nat.reduceMul, Nat.reduceEqDiff, Nat.reduceLT, Nat.reduceLeDiff, Nat.reduceMod, Nat.reduceDiv, Nat.reduceBEq, Int.reduceLE, Int.reduceEq, Int.reduceLT, Int.reduceToNat, Int.reduceAdd, Int.reduceSub, Int.reduceNeg, reduceIte, reduceCtorEq, Int.reduceMul, padC] at hlp
    simp (maxSteps := 10000000) (disch := first | decide | omega | assumption | rfl | (simp only [List.length_set, List.length_append, List.length_take, List.length_drop, List.length_cons, List.length_nil]; omega)) only [go_sem, Nat.reduceAdd, Nat.reduceSub, Nat.reduceMul, Nat.reduceEqDiff, Nat.reduceLT, Nat.reduceLeDiff, Nat.reduceMod, Nat.reduceDiv, Nat.reduceBEq, Int.reduceLE, Int.reduceEq, Int.reduceLT, Int.reduceToNat, Int.reduceAdd, Int.reduceSub, Int.reduceNeg, reduceIte, reduceCtorEq, Int.reduceMul, d_mac_padded, isB_len hv, isB_view hv, isB_deep hv, isB_hands hv, isB_ren hv, isB_width hv, isB_cells hv, isB_sto hv, isB_one hv, isB_at hv, hlp, a1, e1, hs, hp]
    all_goals with_reducible rfl
  case kk =>
    simp (maxSteps := 10000000) (disch := first | decide | omega | assumption | rfl | (simp only [List.length_set, List.length_append, List.length_take, List.length_drop, List.length_cons, List.length_nil]; omega)) only [go_sem, Nat.reduceAdd, Nat.reduceSub, Nat.reduceMul, Nat.reduceEqDiff, Nat.reduceLT, Nat.reduceLeDiff, Nat.reduceMod, Nat.reduceDiv, Nat.reduceBEq, Int.reduceLE, Int.reduceEq, Int.reduceLT, Int.reduceToNat, Int.reduceAdd, Int.reduceSub, Int.reduceNeg, reduceIte, reduceCtorEq, Int.reduceMul, d_mac_padded, hs]
end Go.Dm.T
