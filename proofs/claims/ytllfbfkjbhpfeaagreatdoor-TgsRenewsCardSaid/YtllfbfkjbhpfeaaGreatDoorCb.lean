/- Contracts of the cipher's functions. -/
import Derived.Test.YtllfbfkjbhpfeaaGreatDoorCa
set_option linter.unusedSimpArgs false
set_option linter.unusedVariables false
set_option linter.unusedSectionVars false
set_option linter.unusedSimpArgs false
set_option linter.unusedVariables false
namespace Go.Dm.T
open Go.Dm
variable (D : DProg) (hD : ∀ f F, fnT f = some F → D.fn f = some F)

def twiceS (x : UInt8) : UInt8 := x <<< 1 ^^^ (x >>> 7) * 27
include hD
theorem c_aes_twice (n : Nat) (x : UInt8) : callN D (n + 1) n_aes_twice [.int .u8 x.toNat] [] = some (.int .u8 (twiceS x).toNat, []) := by
  refine call_fn (hD _ _ fn_aes_twice) (run_ret (s := ?ss) ?hh ?kk)
  case hh =>
    simp (maxSteps := 10000000) (disch := first | decide | omega | assumption | rfl | (simp only [List.length_set, List.length_append, List.length_take, List.length_drop, List.length_cons, List.length_nil]; omega)) only [go_sem, Nat.reduceAdd, Nat.reduceSub, Nat.reduceMul, Nat.reduceEqDiff, Nat.reduceLT, Nat.reduceLeDiff, Nat.reduceMod, Nat.reduceDiv, Nat.reduceBEq, Int.reduceLE, Int.reduceEq, Int.reduceLT, Int.reduceToNat, Int.reduceAdd, Int.reduceSub, Int.reduceNeg, reduceIte, reduceCtorEq, Int.reduceMul, d_aes_twice, bin8_shl, bin8_shr, bin8_mul, bin8_xor, bin8_and, bin8_or, bin8_add, bin8_sub, wrap8, un8_not]
    all_goals rfl
  case kk => rfl

/-- a, b, p -/
def timesStep (s : UInt8 × UInt8 × UInt8) : UInt8 × UInt8 × UInt8 := (twiceS s.1, s.2.1 >>> 1, s.2.2 ^^^ s.1 * (s.2.1 &&& 1))
def timesC (s : UInt8 × UInt8 × UInt8) : St := ⟨[.int .u8 s.1.toNat, .int .u8 s.2.1.toNat, .undef, .undef, .undef, .int .u8 s.2.2.toNat, .undef, .undef, .undef, .undef, .undef, .undef, .undef, .undef, .undef, .undef, .undef, .undef, .undef], [], 0, 0⟩
theorem times_round (n : Nat) (s : UInt8 × UInt8 × UInt8) (hs : s.2.1 ≠ 0) : round (exec (callN D (n + 1)) D.lend D.gl l_aes_Times_0) (canon [0, 1, 5]) (timesC s) = some (timesC (timesStep s)) := by
  have h1 : ((s.2.1.toNat : Int) != 0) = true := by
    rw [bne_iff_ne]; intro h; exact hs (UInt8.toNat_inj.1 (by simpa using h))
  simp (maxSteps := 10000000) (disch := first | decide | omega | assumption | rfl | (simp only [List.length_set, List.length_append, List.length_take, List.length_drop, List.length_cons, List.length_nil]; omega)) only [go_sem, Nat.reduceAdd, Nat.reduceSub, Nat.reduceMul, Nat.reduceEqDiff, Nat.reduceLT, Nat.reduceLeDiff, Nat.reduceMod, Nat.reduceDiv, Nat.reduceBEq, Int.reduceLE, Int.reduceEq, Int.reduceLT, Int.reduceToNat, Int.reduceAdd, Int.reduceSub, Int.reduceNeg, reduceIte, reduceCtorEq, Int.reduceMul, l_aes_Times_0, timesC, h1, bin8_shl, bin8_shr, bin8_mul, bin8_xor, bin8_and, bin8_or, bin8_add, bin8_sub, wrap8, un8_not, lend_of hD fn_aes_twice, d_aes_twice, c_aes_twice D hD]
  all_goals rfl
def timesS (a b : UInt8) : UInt8 := (goW (fun s => s.2.1 != 0) timesStep 256 (a, b, 0)).2.2
def timesX (s : UInt8 × UInt8 × UInt8) : Ex × St := (.exit 0, ⟨[.int .u8 s.1.toNat, .int .u8 s.2.1.toNat, .undef, .undef, .undef, .int .u8 s.2.2.toNat, .int .u8 s.2.1.toNat, .bool false, .undef, .undef, .undef, .undef, .undef, .undef, .undef, .undef, .undef, .undef, .undef], [], 2, 0⟩)
theorem times_loop (n : Nat) (a b : UInt8) :
    fromHead (callN D (n + 1)) D.lend D.gl [0, 1, 5] l_aes_Times_0 (some (timesC (a, b, 0))) = some (timesX (goW (fun s => s.2.1 != 0) timesStep 256 (a, b, 0))) := by
  refine (x_while timesC (fun s => s.2.1 != 0) timesStep timesX (fun _ => True) (fun s => s.2.1.toNat) 256 (a, b, 0) trivial ?_ ?_ ?_ ?_).1
  · have := b.toNat_lt; simp only [loopFuel]; omega
  · have := b.toNat_lt; show b.toNat ≤ 256; omega
  · intro s _ hs
    have hs' : s.2.1 ≠ 0 := by simpa using hs
    refine ⟨trivial, ?_, times_round D hD n s hs'⟩
    have h1 : s.2.1.toNat ≠ 0 := fun h => hs' (UInt8.toNat_inj.1 h)
    simp only [timesStep, UInt8.toNat_shiftRight]
    show s.2.1.toNat >>> 1 < s.2.1.toNat
    rw [Nat.shiftRight_eq_div_pow]
    omega
  · intro s _ hs
    have hs' : s.2.1 = 0 := by simpa using hs
    refine ⟨?_, by simp [timesX]⟩
    have h1 : ((s.2.1.toNat : Int) != 0) = false := by rw [hs']; rfl
    simp (maxSteps := 10000000) (disch := first | decide | omega | assumption | rfl | (simp only [List.length_set, List.length_append, List.length_take, List.length_drop, List.length_cons, List.length_nil]; omega)) only [go_sem, Nat.reduceAdd, Nat.reduceSub, Nat.reduceMul, Nat.reduceEqDiff, Nat.reduceLT, Nat.reduceLeDiff, Nat.reduceMod, Nat.reduceDiv, Nat.reduceBEq, Int.reduceLE, Int.reduceEq, Int.reduceLT, Int.reduceToNat, Int.reduceAdd, Int.reduceSub, Int.reduceNeg, reduceIte, reduceCtorEq, Int.reduceMul, l_aes_Times_0, timesC, h1, timesX]
theorem c_aes_Times (n : Nat) (a b : UInt8) : callN D (n + 2) n_aes_Times [.int .u8 a.toNat, .int .u8 b.toNat] [] = some (.int .u8 (timesS a b).toNat, []) := by
  refine call_fn (hD _ _ fn_aes_Times) (run_ret (s := ?ss) ?hh ?kk)
  case hh =>
    have hl := times_loop D hD n a b
    simp only [timesC, zero8] at hl
    simp (maxSteps := 10000000) (disch := first | decide | omega | assumption | rfl | (simp only [List.length_set, List.length_append, List.length_take, List.length_drop, List.length_cons, List.length_nil]; omega)) only [go_sem, Nat.reduceAdd, Nat.reduceSub, Nat.reduceMul, Nat.reduceEqDiff, Nat.reduceLT, Nat.reduceLeDiff, Nat.reduceMod, Nat.reduceDiv, Nat.reduceBEq, Int.reduceLE, Int.reduceEq, Int.reduceLT, Int.reduceToNat, Int.reduceAdd, Int.reduceSub, Int.reduceNeg, reduceIte, reduceCtorEq, Int.reduceMul, d_aes_Times, hl, timesX]
    all_goals rfl
  case kk => rfl


def boxT : List UInt8 := [99, 124, 119, 123, 242, 107, 111, 197, 48, 1, 103, 43, 254, 215, 171, 118, 202, 130, 201, 125, 250, 89, 71, 240, 173, 212, 162, 175, 156, 164, 114, 192, 183, 253, 147, 38, 54, 63, 247, 204, 52, 165, 229, 241, 113, 216, 49, 21, 4, 199, 35, 195, 24, 150, 5, 154, 7, 18, 128, 226, 235, 39, 178, 117, 9, 131, 44, 26, 27, 110, 90, 160, 82, 59, 214, 179, 41, 227, 47, 132, 83, 209, 0, 237, 32, 252, 177, 91, 106, 203, 190, 57, 74, 76, 88, 207, 208, 239, 170, 251, 67, 77, 51, 133, 69, 249, 2, 127, 80, 60, 159, 168, 81, 163, 64, 143, 146, 157, 56, 245, 188, 182, 218, 33, 16, 255, 243, 210, 205, 12, 19, 236, 95, 151, 68, 23, 196, 167, 126, 61, 100, 93, 25, 115, 96, 129, 79, 220, 34, 42, 144, 136, 70, 238, 184, 20, 222, 94, 11, 219, 224, 50, 58, 10, 73, 6, 36, 92, 194, 211, 172, 98, 145, 149, 228, 121, 231, 200, 55, 109, 141, 213, 78, 169, 108, 86, 244, 234, 101, 122, 174, 8, 186, 120, 37, 46, 28, 166, 180, 198, 232, 221, 116, 31, 75, 189, 139, 138, 112, 62, 181, 102, 72, 3, 246, 14, 97, 53, 87, 185, 134, 193, 29, 158, 225, 248, 152, 17, 105, 217, 142, 148, 155, 30, 135, 233, 206, 85, 40, 223, 140, 161, 137, 13, 191, 230, 66, 104, 65, 153, 45, 15, 176, 84, 187, 22]
omit hD in
theorem boxT_length : boxT.length = 256 := by kernel_rfl
omit hD in
theorem box_run (cs : CallSem) (lend : Nat → List Bool) (gl : Nat → Option (List V)) : runF cs lend gl d_aes_box [] [] = some (.agg (bytesV boxT), []) := by kernel_rfl
theorem c_aes_box (n : Nat) : callN D (n + 1) n_aes_box [] [] = some (.agg (bytesV boxT), []) :=
  call_fn (hD _ _ fn_aes_box) (box_run _ _ _)

def xorStep (k : List UInt8) (i : Nat) (b : List UInt8) : List UInt8 := b.set i (b.getD i 0 ^^^ k.getD i 0)
def xorS (b k : List UInt8) : List UInt8 := upTo (xorStep k) 16 b
omit hD in
theorem xor_len (k b : List UInt8) (n : Nat) : (upTo (xorStep k) n b).length = b.length :=
  upTo_inv (fun (l : List UInt8) => l.length = b.length) rfl fun i _ l hl => by rw [xorStep, List.length_set, hl]
omit hD in
theorem xorS_length (b k : List UInt8) : (xorS b k).length = b.length := xor_len _ _ _
def xorC (b k : List UInt8) (i : Nat) : St := ⟨envOf 20 [(0, .hp 0 0 0), (3, .hp 1 0 0), (5, .int .i64 i)], [(0, .row (bytesV b) 1), (1, .row (bytesV k) 1)], 2, 1⟩
theorem xor_round (n : Nat) (b k : List UInt8) (i : Nat) (hi : i < 16) (hb : b.length = 16) (hk : k.length = 16) :
    round (exec (callN D n) D.lend D.gl l_aes_block_xor_0) (canon [0, 3, 5]) (xorC b k i) = some (xorC (xorStep k i b) k (i + 1)) := by
  have a1 : ((i : Int) < 16) = True := by simp; omega
  have a6 : (i < 16) = True := by simp; omega
  simp (maxSteps := 10000000) (disch := first | decide | omega | assumption | rfl | (simp only [List.length_set, List.length_append, List.length_take, List.length_drop, List.length_cons, List.length_nil]; omega)) only [go_sem, Nat.reduceAdd, Nat.reduceSub, Nat.reduceMul, Nat.reduceEqDiff, Nat.reduceLT, Nat.reduceLeDiff, Nat.reduceMod, Nat.reduceDiv, Nat.reduceBEq, Int.reduceLE, Int.reduceEq, Int.reduceLT, Int.reduceToNat, Int.reduceAdd, Int.reduceSub, Int.reduceNeg, reduceIte, reduceCtorEq, Int.reduceMul, l_aes_block_xor_0, xorC, xorStep, a1, a6, hb, hk, bytesV_at, bin8_shl, bin8_shr, bin8_mul, bin8_xor, bin8_and, bin8_or, bin8_add, bin8_sub, wrap8, un8_not]
  all_goals rfl
theorem xor_loop (n : Nat) (b k : List UInt8) (hb : b.length = 16) (hk : k.length = 16) :
    fromHead (callN D n) D.lend D.gl [0, 3, 5] l_aes_block_xor_0 (some (xorC b k 0)) = some (.exit 0, ⟨envOf 20 [(0, .hp 0 0 0), (3, .hp 1 0 0), (5, .int .i64 16), (6, .bool false)], [(0, .row (bytesV (xorS b k)) 1), (1, .row (bytesV k) 1)], 3, 1⟩) := by
  refine x_loop (fun i => xorC (upTo (xorStep k) i b) k i) 16 (by simp) (by simp [loopFuel]) (fun i hi => ?_) ?_
  · exact xor_round D hD n _ k i hi (by rw [xor_len, hb]) hk
  · simp (maxSteps := 10000000) (disch := first | decide | omega | assumption | rfl | (simp only [List.length_set, List.length_append, List.length_take, List.length_drop, List.length_cons, List.length_nil]; omega)) only [go_sem, Nat.reduceAdd, Nat.reduceSub, Nat.reduceMul, Nat.reduceEqDiff, Nat.reduceLT, Nat.reduceLeDiff, Nat.reduceMod, Nat.reduceDiv, Nat.reduceBEq, Int.reduceLE, Int.reduceEq, Int.reduceLT, Int.reduceToNat, Int.reduceAdd, Int.reduceSub, Int.reduceNeg, reduceIte, reduceCtorEq, Int.reduceMul, l_aes_block_xor_0, xorC, xorS]
theorem c_aes_block_xor (n : Nat) (b k : List UInt8) (hb : b.length = 16) (hk : k.length = 16) :
    callN D (n + 1) n_aes_block_xor [.hp 0 0 0, .agg (bytesV k)] [(0, .row (bytesV b) 1)] = some (.tup [], [(0, .row (bytesV (xorS b k)) 1)]) := by
  refine call_fn (hD _ _ fn_aes_block_xor) (run_nrm (s := ?ss) ?hh ?kk)
  case hh =>
    have hl := xor_loop D hD n b k hb hk
    simp (maxSteps := 10000000) (disch := first | decide | omega | assumption | rfl | (simp only [List.length_set, List.length_append, List.length_take, List.length_drop, List.length_cons, List.length_nil]; omega)) only [go_sem, Nat.reduceAdd, Nat.reduceSub, Nat.reduceMul, Nat.reduceEqDiff, Nat.reduceLT, Nat.reduceLeDiff, Nat.reduceMod, Nat.reduceDiv, Nat.reduceBEq, Int.reduceLE, Int.reduceEq, Int.reduceLT, Int.reduceToNat, Int.reduceAdd, Int.reduceSub, Int.reduceNeg, reduceIte, reduceCtorEq, Int.reduceMul, xorC] at hl
    simp (maxSteps := 10000000) (disch := first | decide | omega | assumption | rfl | (simp only [List.length_set, List.length_append, List.length_take, List.length_drop, List.length_cons, List.length_nil]; omega)) only [go_sem, Nat.reduceAdd, Nat.reduceSub, Nat.reduceMul, Nat.reduceEqDiff, Nat.reduceLT, Nat.reduceLeDiff, Nat.reduceMod, Nat.reduceDiv, Nat.reduceBEq, Int.reduceLE, Int.reduceEq, Int.reduceLT, Int.reduceToNat, Int.reduceAdd, Int.reduceSub, Int.reduceNeg, reduceIte, reduceCtorEq, Int.reduceMul, d_aes_block_xor, hl, hb, hk]
    all_goals with_reducible rfl
  case kk =>
    simp (maxSteps := 10000000) (disch := first | decide | omega | assumption | rfl | (simp only [List.length_set, List.length_append, List.length_take, List.length_drop, List.length_cons, List.length_nil]; omega)) only [go_sem, Nat.reduceAdd, Nat.reduceSub, Nat.reduceMul, Nat.reduceEqDiff, Nat.reduceLT, Nat.reduceLeDiff, Nat.reduceMod, Nat.reduceDiv, Nat.reduceBEq, Int.reduceLE, Int.reduceEq, Int.reduceLT, Int.reduceToNat, Int.reduceAdd, Int.reduceSub, Int.reduceNeg, reduceIte, reduceCtorEq, Int.reduceMul, d_aes_block_xor]

def turnStep (was : List UInt8) (t : Nat) (i : Nat) (b : List UInt8) : List UInt8 := b.set i (was.getD ((i + 4 * t * (i % 4)) % 16) 0)
def turnS (b : List UInt8) (t : Nat) : List UInt8 := upTo (turnStep b t) 16 b
omit hD in
theorem turn_len (was b : List UInt8) (t n : Nat) : (upTo (turnStep was t) n b).length = b.length :=
  upTo_inv (fun (l : List UInt8) => l.length = b.length) rfl fun i _ l hl => by rw [turnStep, List.length_set, hl]
omit hD in
theorem turnS_length (b : List UInt8) (t : Nat) : (turnS b t).length = b.length := turn_len _ _ _ _
def turnC (b was : List UInt8) (t i : Nat) : St := ⟨envOf 27 [(0, .hp 0 0 0), (1, .int .i64 t), (4, .hp 1 0 0), (9, .int .i64 i)], [(0, .row (bytesV b) 1), (1, .row (bytesV was) 1)], 2, 1⟩
omit hD in
theorem turn_idx1 : ∀ i : Nat, i < 16 → (IntKind.i64.wrap ((i : Int) + IntKind.i64.wrap (IntKind.i64.wrap 4 * (i : Int).tmod 4))).tmod 16 = (((i + 4 * 1 * (i % 4)) % 16 : Nat) : Int) := by decide
omit hD in
theorem turn_idx3 : ∀ i : Nat, i < 16 → (IntKind.i64.wrap ((i : Int) + IntKind.i64.wrap (IntKind.i64.wrap 12 * (i : Int).tmod 4))).tmod 16 = (((i + 4 * 3 * (i % 4)) % 16 : Nat) : Int) := by decide
theorem turn_round (n : Nat) (b was : List UInt8) (t : Nat) (ht : t = 1 ∨ t = 3) (i : Nat) (hi : i < 16) (hb : b.length = 16) (hk : was.length = 16) :
    round (exec (callN D n) D.lend D.gl l_aes_block_turn_0) (canon [0, 1, 4, 9]) (turnC b was t i) = some (turnC (turnStep was t i b) was t (i + 1)) := by
  have a1 : ((i : Int) < 16) = True := by simp; omega
  have a6 : (i < 16) = True := by simp; omega
  rcases ht with rfl | rfl
  · have a7 : ((i + 4 * (i % 4)) % 16 < 16) = True := by simp; omega
    simp (maxSteps := 10000000) (disch := first | decide | omega | assumption | rfl | (simp only [List.length_set, List.length_append, List.length_take, List.length_drop, List.length_cons, List.length_nil]; omega)) only [go_sem, Nat.reduceAdd, Nat.reduceSub, Nat.reduceMul, Nat.reduceEqDiff, Nat.reduceLT, Nat.reduceLeDiff, Nat.reduceMod, Nat.reduceDiv, Nat.reduceBEq, Int.reduceLE, Int.reduceEq, Int.reduceLT, Int.reduceToNat, Int.reduceAdd, Int.reduceSub, Int.reduceNeg, reduceIte, reduceCtorEq, Int.reduceMul, l_aes_block_turn_0, turnC, turnStep, a1, a6, a7, hb, hk, bytesV_at, turn_idx1 i hi]
    all_goals rfl
  · have a7 : ((i + 12 * (i % 4)) % 16 < 16) = True := by simp; omega
    simp (maxSteps := 10000000) (disch := first | decide | omega | assumption | rfl | (simp only [List.length_set, List.length_append, List.length_take, List.length_drop, List.length_cons, List.length_nil]; omega)) only [go_sem, Nat.reduceAdd, Nat.reduceSub, Nat.reduceMul, Nat.reduceEqDiff, Nat.reduceLT, Nat.reduceLeDiff, Nat.reduceMod, Nat.reduceDiv, Nat.reduceBEq, Int.reduceLE, Int.reduceEq, Int.reduceLT, Int.reduceToNat, Int.reduceAdd, Int.reduceSub, Int.reduceNeg, reduceIte, reduceCtorEq, Int.reduceMul, l_aes_block_turn_0, turnC, turnStep, a1, a6, a7, hb, hk, bytesV_at, turn_idx3 i hi]
    all_goals rfl
theorem turn_loop (n : Nat) (b was : List UInt8) (t : Nat) (ht : t = 1 ∨ t = 3) (hb : b.length = 16) (hk : was.length = 16) :
    fromHead (callN D n) D.lend D.gl [0, 1, 4, 9] l_aes_block_turn_0 (some (turnC b was t 0)) = some (.exit 0, ⟨envOf 27 [(0, .hp 0 0 0), (1, .int .i64 t), (4, .hp 1 0 0), (9, .int .i64 16), (10, .bool false)], [(0, .row (bytesV (upTo (turnStep was t) 16 b)) 1), (1, .row (bytesV was) 1)], 3, 1⟩) := by
  refine x_loop (fun i => turnC (upTo (turnStep was t) i b) was t i) 16 (by simp) (by simp [loopFuel]) (fun i hi => ?_) ?_
  · exact turn_round D hD n _ was t ht i hi (by rw [turn_len, hb]) hk
  · simp (maxSteps := 10000000) (disch := first | decide | omega | assumption | rfl | (simp only [List.length_set, List.length_append, List.length_take, List.length_drop, List.length_cons, List.length_nil]; omega)) only [go_sem, Nat.reduceAdd, Nat.reduceSub, Nat.reduceMul, Nat.reduceEqDiff, Nat.reduceLT, Nat.reduceLeDiff, Nat.reduceMod, Nat.reduceDiv, Nat.reduceBEq, Int.reduceLE, Int.reduceEq, Int.reduceLT, Int.reduceToNat, Int.reduceAdd, Int.reduceSub, Int.reduceNeg, reduceIte, reduceCtorEq, Int.reduceMul, l_aes_block_turn_0, turnC]
theorem c_aes_block_turn (n : Nat) (b : List UInt8) (t : Nat) (ht : t = 1 ∨ t = 3) (hb : b.length = 16) :
    callN D (n + 1) n_aes_block_turn [.hp 0 0 0, .int .i64 t] [(0, .row (bytesV b) 1)] = some (.tup [], [(0, .row (bytesV (turnS b t)) 1)]) := by
  refine call_fn (hD _ _ fn_aes_block_turn) (run_nrm (s := ?ss) ?hh ?kk)
  case hh =>
    have hl := turn_loop D hD n b b t ht hb hb
    rw [← turnS] at hl
    simp (maxSteps := 10000000) (disch := first | decide | omega | assumption | rfl | (simp only [List.length_set, List.length_append, List.length_take, List.length_drop, List.length_cons, List.length_nil]; omega)) only [go_sem, Nat.reduceAdd, Nat.reduceSub, Nat.reduceMul, Nat.reduceEqDiff, Nat.reduceLT, Nat.reduceLeDiff, Nat.reduceMod, Nat.reduceDiv, Nat.reduceBEq, Int.reduceLE, Int.reduceEq, Int.reduceLT, Int.reduceToNat, Int.reduceAdd, Int.reduceSub, Int.reduceNeg, reduceIte, reduceCtorEq, Int.reduceMul, turnC] at hl
    simp (maxSteps := 10000000) (disch := first | decide | omega | assumption | rfl | (simp only [List.length_set, List.length_append, List.length_take, List.length_drop, List.length_cons, List.length_nil]; omega)) only [go_sem, Nat.reduceAdd, Nat.reduceSub, Nat.reduceMul, Nat.reduceEqDiff, Nat.reduceLT, Nat.reduceLeDiff, Nat.reduceMod, Nat.reduceDiv, Nat.reduceBEq, Int.reduceLE, Int.reduceEq, Int.reduceLT, Int.reduceToNat, Int.reduceAdd, Int.reduceSub, Int.reduceNeg, reduceIte, reduceCtorEq, Int.reduceMul, d_aes_block_turn, hl, hb]
    all_goals with_reducible rfl
  case kk =>
    simp (maxSteps := 10000000) (disch := first | decide | omega | assumption | rfl | (simp only [List.length_set, List.length_append, List.length_take, List.length_drop, List.length_cons, List.length_nil]; omega)) only [go_sem, Nat.reduceAdd, Nat.reduceSub, Nat.reduceMul, Nat.reduceEqDiff, Nat.reduceLT, Nat.reduceLeDiff, Nat.reduceMod, Nat.reduceDiv, Nat.reduceBEq, Int.reduceLE, Int.reduceEq, Int.reduceLT, Int.reduceToNat, Int.reduceAdd, Int.reduceSub, Int.reduceNeg, reduceIte, reduceCtorEq, Int.reduceMul, d_aes_block_turn]

def mixIn (was m : List UInt8) (i : Nat) (k : Nat) (x : UInt8) : UInt8 := x ^^^ timesS (was.getD (i / 4 * 4 + (i + k) % 4) 0) (m.getD k 0)
def mixStep (was m : List UInt8) (i : Nat) (b : List UInt8) : List UInt8 := b.set i (upTo (mixIn was m i) 4 0)
def mixS (b m : List UInt8) : List UInt8 := upTo (mixStep b m) 16 b
omit hD in
theorem mix_len (was b m : List UInt8) (n : Nat) : (upTo (mixStep was m) n b).length = b.length :=
  upTo_inv (fun (l : List UInt8) => l.length = b.length) rfl fun i _ l hl => by rw [mixStep, List.length_set, hl]
omit hD in
theorem mixS_length (b m : List UInt8) : (mixS b m).length = b.length := mix_len _ _ _ _
def mixC (b m was : List UInt8) (i : Nat) : St := ⟨envOf 40 [(0, .hp 0 0 0), (3, .hp 1 0 0), (4, .hp 2 0 0), (12, .int .i64 i)], [(0, .row (bytesV b) 1), (1, .row (bytesV m) 1), (2, .row (bytesV was) 1)], 3, 1⟩
def mixD (b m was : List UInt8) (i : Nat) (x : UInt8) (k : Nat) : St := ⟨envOf 40 [(0, .hp 0 0 0), (3, .hp 1 0 0), (4, .hp 2 0 0), (5, .int .i64 i), (6, .int .u8 x.toNat), (12, .int .i64 i), (15, .agg (bytesV m)), (16, .int .i64 k)], [(0, .row (bytesV b) 1), (1, .row (bytesV m) 1), (2, .row (bytesV was) 1)], 3, 1⟩
omit hD in
theorem mix_idx : ∀ i : Nat, i < 16 → ∀ k : Nat, k < 4 → bitsV .or .i64 (bitsV .andNot .i64 (i : Int) 3) (bitsV .and .i64 (IntKind.i64.wrap ((i : Int) + (k : Int))) 3) = ((i / 4 * 4 + (i + k) % 4 : Nat) : Int) := by decide
theorem mix_round_in (n : Nat) (b m was : List UInt8) (i : Nat) (x : UInt8) (k : Nat) (hi : i < 16) (hk : k < 4) (hm : m.length = 4) (hw : was.length = 16) :
    round (exec (callN D (n + 2)) D.lend D.gl l_aes_block_mix_0) (canon [0, 3, 4, 5, 6, 12, 15, 16]) (mixD b m was i x k) = some (mixD b m was i (mixIn was m i k x) (k + 1)) := by
  have a1 : ((k : Int) < 4) = True := by simp; omega
  have a6 : (k < 4) = True := by simp; omega
  have a7 : (i / 4 * 4 + (i + k) % 4 < 16) = True := by simp; omega
  simp (maxSteps := 10000000) (disch := first | decide | omega | assumption | rfl | (simp only [List.length_set, List.length_append, List.length_take, List.length_drop, List.length_cons, List.length_nil]; omega)) only [go_sem, Nat.reduceAdd, Nat.reduceSub, Nat.reduceMul, Nat.reduceEqDiff, Nat.reduceLT, Nat.reduceLeDiff, Nat.reduceMod, Nat.reduceDiv, Nat.reduceBEq, Int.reduceLE, Int.reduceEq, Int.reduceLT, Int.reduceToNat, Int.reduceAdd, Int.reduceSub, Int.reduceNeg, reduceIte, reduceCtorEq, Int.reduceMul, l_aes_block_mix_0, mixD, mixIn, a1, a6, a7, hm, hw, bytesV_at, mix_idx i hi k hk, bin8_shl, bin8_shr, bin8_mul, bin8_xor, bin8_and, bin8_or, bin8_add, bin8_sub, wrap8, un8_not, lend_of hD fn_aes_Times, d_aes_Times, c_aes_Times D hD]
  all_goals rfl
theorem mix_loop_in (n : Nat) (b m was : List UInt8) (i : Nat) (hi : i < 16) (hm : m.length = 4) (hw : was.length = 16) :
    fromHead (callN D (n + 2)) D.lend D.gl [0, 3, 4, 5, 6, 12, 15, 16] l_aes_block_mix_0 (some (mixD b m was i 0 0)) = some (.exit 2, ⟨envOf 40 [(0, .hp 0 0 0), (3, .hp 1 0 0), (4, .hp 2 0 0), (5, .int .i64 i), (6, .int .u8 (upTo (mixIn was m i) 4 0).toNat), (12, .int .i64 i), (15, .agg (bytesV m)), (16, .int .i64 4), (17, .bool false)], [(0, .row (bytesV b) 1), (1, .row (bytesV m) 1), (2, .row (bytesV was) 1)], 4, 1⟩) := by
  refine x_loop (fun k => mixD b m was i (upTo (mixIn was m i) k 0) k) 4 (by simp) (by simp [loopFuel]) (fun k hk => ?_) ?_
  · exact mix_round_in D hD n b m was i _ k hi hk hm hw
  · simp (maxSteps := 10000000) (disch := first | decide | omega | assumption | rfl | (simp only [List.length_set, List.length_append, List.length_take, List.length_drop, List.length_cons, List.length_nil]; omega)) only [go_sem, Nat.reduceAdd, Nat.reduceSub, Nat.reduceMul, Nat.reduceEqDiff, Nat.reduceLT, Nat.reduceLeDiff, Nat.reduceMod, Nat.reduceDiv, Nat.reduceBEq, Int.reduceLE, Int.reduceEq, Int.reduceLT, Int.reduceToNat, Int.reduceAdd, Int.reduceSub, Int.reduceNeg, reduceIte, reduceCtorEq, Int.reduceMul, l_aes_block_mix_0, mixD]
theorem mix_round (n : Nat) (b m was : List UInt8) (i : Nat) (hi : i < 16) (hb : b.length = 16) (hm : m.length = 4) (hw : was.length = 16) :
    round (exec (callN D (n + 2)) D.lend D.gl l_aes_block_mix_1) (canon [0, 3, 4, 12]) (mixC b m was i) = some (mixC (mixStep was m i b) m was (i + 1)) := by
  have a1 : ((i : Int) < 16) = True := by simp; omega
  have a6 : (i < 16) = True := by simp; omega
  have hl := mix_loop_in D hD n b m was i hi hm hw
  simp (maxSteps := 10000000) (disch := first | decide | omega | assumption | rfl | (simp only [List.length_set, List.length_append, List.length_take, List.length_drop, List.length_cons, List.length_nil]; omega)) only [go_sem, Nat.reduceAdd, Nat.reduceSub, Nat.reduceMul, Nat.reduceEqDiff, Nat.reduceLT, Nat.reduceLeDiff, Nat.reduceMod, Nat.reduceDiv, Nat.reduceBEq, Int.reduceLE, Int.reduceEq, Int.reduceLT, Int.reduceToNat, Int.reduceAdd, Int.reduceSub, Int.reduceNeg, reduceIte, reduceCtorEq, Int.reduceMul, mixD, zero8] at hl
  simp (maxSteps := 10000000) (disch := first | decide | omega | assumption | rfl | (simp only [List.length_set, List.length_append, List.length_take, List.length_drop, List.length_cons, List.length_nil]; omega)) only [go_sem, Nat.reduceAdd, Nat.reduceSub, Nat.reduceMul, Nat.reduceEqDiff, Nat.reduceLT, Nat.reduceLeDiff, Nat.reduceMod, Nat.reduceDiv, Nat.reduceBEq, Int.reduceLE, Int.reduceEq, Int.reduceLT, Int.reduceToNat, Int.reduceAdd, Int.reduceSub, Int.reduceNeg, reduceIte, reduceCtorEq, Int.reduceMul, l_aes_block_mix_1, mixC, mixStep, hl, a1, a6, hb, hm, hw, bytesV_at]
  all_goals rfl
theorem mix_loop (n : Nat) (b m was : List UInt8) (hb : b.length = 16) (hm : m.length = 4) (hw : was.length = 16) :
    fromHead (callN D (n + 2)) D.lend D.gl [0, 3, 4, 12] l_aes_block_mix_1 (some (mixC b m was 0)) = some (.exit 0, ⟨envOf 40 [(0, .hp 0 0 0), (3, .hp 1 0 0), (4, .hp 2 0 0), (12, .int .i64 16), (13, .bool false)], [(0, .row (bytesV (upTo (mixStep was m) 16 b)) 1), (1, .row (bytesV m) 1), (2, .row (bytesV was) 1)], 4, 1⟩) := by
  refine x_loop (fun i => mixC (upTo (mixStep was m) i b) m was i) 16 (by simp) (by simp [loopFuel]) (fun i hi => ?_) ?_
  · exact mix_round D hD n _ m was i hi (by rw [mix_len, hb]) hm hw
  · simp (maxSteps := 10000000) (disch := first | decide | omega | assumption | rfl | (simp only [List.length_set, List.length_append, List.length_take, List.length_drop, List.length_cons, List.length_nil]; omega)) only [go_sem, Nat.reduceAdd, Nat.reduceSub, Nat.reduceMul, Nat.reduceEqDiff, Nat.reduceLT, Nat.reduceLeDiff, Nat.reduceMod, Nat.reduceDiv, Nat.reduceBEq, Int.reduceLE, Int.reduceEq, Int.reduceLT, Int.reduceToNat, Int.reduceAdd, Int.reduceSub, Int.reduceNeg, reduceIte, reduceCtorEq, Int.reduceMul, l_aes_block_mix_1, mixC]
theorem c_aes_block_mix (n : Nat) (b m : List UInt8) (hb : b.length = 16) (hm : m.length = 4) :
    callN D (n + 3) n_aes_block_mix [.hp 0 0 0, .agg (bytesV m)] [(0, .row (bytesV b) 1)] = some (.tup [], [(0, .row (bytesV (mixS b m)) 1)]) := by
  refine call_fn (hD _ _ fn_aes_block_mix) (run_nrm (s := ?ss) ?hh ?kk)
  case hh =>
    have hl := mix_loop D hD n b m b hb hm hb
    rw [← mixS] at hl
    simp (maxSteps := 10000000) (disch := first | decide | omega | assumption | rfl | (simp only [List.length_set, List.length_append, List.length_take, List.length_drop, List.length_cons, List.length_nil]; omega)) only [go_sem, Nat.reduceAdd, Nat.reduceSub, Nat.reduceMul, Nat.reduceEqDiff, Nat.reduceLT, Nat.reduceLeDiff, Nat.reduceMod, Nat.reduceDiv, Nat.reduceBEq, Int.reduceLE, Int.reduceEq, Int.reduceLT, Int.reduceToNat, Int.reduceAdd, Int.reduceSub, Int.reduceNeg, reduceIte, reduceCtorEq, Int.reduceMul, mixC] at hl
    simp (maxSteps := 10000000) (disch := first | decide | omega | assumption | rfl | (simp only [List.length_set, List.length_append, List.length_take, List.length_drop, List.length_cons, List.length_nil]; omega)) only [go_sem, Nat.reduceAdd, Nat.reduceSub, Nat.reduceMul, Nat.reduceEqDiff, Nat.reduceLT, Nat.reduceLeDiff, Nat.reduceMod, Nat.reduceDiv, Nat.reduceBEq, Int.reduceLE, Int.reduceEq, Int.reduceLT, Int.reduceToNat, Int.reduceAdd, Int.reduceSub, Int.reduceNeg, reduceIte, reduceCtorEq, Int.reduceMul, d_aes_block_mix, hl, hb, hm]
    all_goals with_reducible rfl
  case kk =>
    simp (maxSteps := 10000000) (disch := first | decide | omega | assumption | rfl | (simp only [List.length_set, List.length_append, List.length_take, List.length_drop, List.length_cons, List.length_nil]; omega)) only [go_sem, Nat.reduceAdd, Nat.reduceSub, Nat.reduceMul, Nat.reduceEqDiff, Nat.reduceLT, Nat.reduceLeDiff, Nat.reduceMod, Nat.reduceDiv, Nat.reduceBEq, Int.reduceLE, Int.reduceEq, Int.reduceLT, Int.reduceToNat, Int.reduceAdd, Int.reduceSub, Int.reduceNeg, reduceIte, reduceCtorEq, Int.reduceMul, d_aes_block_mix]

/-! The byte whose substitute one is. -/
def backC (x : UInt8) (i : Nat) : St := ⟨envOf 16 [(0, .int .u8 x.toNat), (5, .agg (bytesV boxT)), (6, .int .i64 i)], [], 0, 0⟩
theorem back_round (n : Nat) (x : UInt8) (i : Nat) (hi : i < 256) (h : x ≠ boxT.getD i 0) :
    round (exec (callN D n) D.lend D.gl l_aes_back_0) (canon [0, 5, 6]) (backC x i) = some (backC x (i + 1)) := by
  have a1 : ((i : Int) < 256) = True := by simp; omega
  have a6 : (i < 256) = True := by simp; omega
  have hb := boxT_length
  have a7 : ((x.toNat : Int) == ((boxT.getD i 0).toNat : Int)) = false := beq_false_of_ne fun e => h (UInt8.toNat_inj.1 (by omega))
  simp (maxSteps := 10000000) (disch := first | decide | omega | assumption | rfl | (simp only [List.length_set, List.length_append, List.length_take, List.length_drop, List.length_cons, List.length_nil]; omega)) only [go_sem, Nat.reduceAdd, Nat.reduceSub, Nat.reduceMul, Nat.reduceEqDiff, Nat.reduceLT, Nat.reduceLeDiff, Nat.reduceMod, Nat.reduceDiv, Nat.reduceBEq, Int.reduceLE, Int.reduceEq, Int.reduceLT, Int.reduceToNat, Int.reduceAdd, Int.reduceSub, Int.reduceNeg, reduceIte, reduceCtorEq, Int.reduceMul, l_aes_back_0, backC, a1, a6, a7, hb, bytesV_at]
  all_goals rfl
theorem back_exit (n : Nat) (x : UInt8) (i : Nat) (hi : i < 256) (h : x = boxT.getD i 0) :
    exec (callN D n) D.lend D.gl l_aes_back_0 (backC x i) = some (.ret, ⟨envOf 16 [(0, .int .u8 x.toNat), (2, .int .u8 ((UInt8.ofInt i).toNat)), (3, .int .i64 i), (4, .int .u8 x.toNat), (5, .agg (bytesV boxT)), (6, .int .i64 i), (7, .bool true), (8, .int .i64 i), (9, .int .u8 x.toNat), (10, .int .u8 x.toNat), (11, .int .u8 x.toNat), (12, .bool true), (13, .int .i64 i), (14, .int .u8 ((UInt8.ofInt i).toNat))], [], 11, 0⟩) := by
  have a1 : ((i : Int) < 256) = True := by simp; omega
  have a6 : (i < 256) = True := by simp; omega
  have hb := boxT_length
  have a7 : ((x.toNat : Int) == (x.toNat : Int)) = true := by simp
  simp (maxSteps := 10000000) (disch := first | decide | omega | assumption | rfl | (simp only [List.length_set, List.length_append, List.length_take, List.length_drop, List.length_cons, List.length_nil]; omega)) only [go_sem, Nat.reduceAdd, Nat.reduceSub, Nat.reduceMul, Nat.reduceEqDiff, Nat.reduceLT, Nat.reduceLeDiff, Nat.reduceMod, Nat.reduceDiv, Nat.reduceBEq, Int.reduceLE, Int.reduceEq, Int.reduceLT, Int.reduceToNat, Int.reduceAdd, Int.reduceSub, Int.reduceNeg, reduceIte, reduceCtorEq, Int.reduceMul, l_aes_back_0, backC, a1, a6, a7, hb, bytesV_at, ← h, wrap8]
  all_goals rfl
end Go.Dm.T
set_option linter.unusedSimpArgs false
set_option linter.unusedVariables false
set_option linter.unusedSectionVars false
namespace Go.Dm.T
open Go.Dm
variable (D : DProg) (hD : ∀ f F, fnT f = some F → D.fn f = some F)
include hD

def backI (x : UInt8) : Nat := boxT.findIdx (· == x)
def backS (x : UInt8) : UInt8 := UInt8.ofInt (backI x)
omit hD in
theorem backI_all : (List.range 256).all (fun n => decide (backI (UInt8.ofNat n) < 256)) = true := by kernel_rfl
omit hD in
theorem backI_lt (x : UInt8) : backI x < 256 := by
  have h := List.all_eq_true.1 backI_all x.toNat (List.mem_range.2 x.toNat_lt)
  rw [decide_eq_true_eq] at h
  rwa [UInt8.ofNat_toNat] at h
omit hD in
theorem backI_at (x : UInt8) : x = boxT.getD (backI x) 0 := by
  have hlt : backI x < boxT.length := by rw [boxT_length]; exact backI_lt x
  have h : (boxT[backI x]'hlt == x) = true := List.findIdx_getElem (w := hlt)
  rw [List.getD_eq_getElem?_getD, List.getElem?_eq_getElem hlt]
  simpa using (eq_of_beq h).symm
omit hD in
theorem backI_before (x : UInt8) (j : Nat) (hj : j < backI x) : x ≠ boxT.getD j 0 := by
  have hlt : j < boxT.length := by rw [boxT_length]; have := backI_lt x; omega
  have h : (boxT[j]'hlt == x) = false := List.not_of_lt_findIdx hj
  rw [List.getD_eq_getElem?_getD, List.getElem?_eq_getElem hlt]
  intro e
  exact ne_of_beq_false h e.symm
theorem c_aes_back (n : Nat) (x : UInt8) : callN D (n + 2) n_aes_back [.int .u8 x.toNat] [] = some (.int .u8 (backS x).toNat, []) := by
  refine call_fn (hD _ _ fn_aes_back) (run_ret (s := ?ss) ?hh ?kk)
  case hh =>
    have hl := x_loop (backC x) (backI x) (by simp : Ex.ret ≠ Ex.nrm) (by have := backI_lt x; simp only [loopFuel]; omega)
      (fun i hi => back_round D hD (n + 1) x i (by have := backI_lt x; omega) (backI_before x i hi)) (back_exit D hD (n + 1) x (backI x) (backI_lt x) (backI_at x))
    simp (maxSteps := 10000000) (disch := first | decide | omega | assumption | rfl | (simp only [List.length_set, List.length_append, List.length_take, List.length_drop, List.length_cons, List.length_nil]; omega)) only [go_sem, Nat.reduceAdd, Nat.reduceSub, Nat.reduceMul, Nat.reduceEqDiff, Nat.reduceLT, Nat.reduceLeDiff, Nat.reduceMod, Nat.reduceDiv, Nat.reduceBEq, Int.reduceLE, Int.reduceEq, Int.reduceLT, Int.reduceToNat, Int.reduceAdd, Int.reduceSub, Int.reduceNeg, reduceIte, reduceCtorEq, Int.reduceMul, backC] at hl
    have hb : D.lend n_aes_box = [] := lend_of hD fn_aes_box
    simp (maxSteps := 10000000) (disch := first | decide | omega | assumption | rfl | (simp only [List.length_set, List.length_append, List.length_take, List.length_drop, List.length_cons, List.length_nil]; omega)) only [go_sem, Nat.reduceAdd, Nat.reduceSub, Nat.reduceMul, Nat.reduceEqDiff, Nat.reduceLT, Nat.reduceLeDiff, Nat.reduceMod, Nat.reduceDiv, Nat.reduceBEq, Int.reduceLE, Int.reduceEq, Int.reduceLT, Int.reduceToNat, Int.reduceAdd, Int.reduceSub, Int.reduceNeg, reduceIte, reduceCtorEq, Int.reduceMul, d_aes_back, hl, hb, c_aes_box D hD]
    all_goals with_reducible rfl
  case kk => rfl

/-! Keys of rounds. -/
def keysV (ks : List (List UInt8)) : List V := ks.map fun k => .agg (bytesV k)
omit hD
theorem keysV_length (ks : List (List UInt8)) : (keysV ks).length = ks.length := by simp [keysV]
theorem keysV_at {ks : List (List UInt8)} {i : Nat} (h : i < ks.length) : (keysV ks)[i]? = some (.agg (bytesV (ks.getD i []))) := by
  simp only [keysV, List.getElem?_map, getD_some [] h]; rfl
theorem keysV_set (ks : List (List UInt8)) (i : Nat) (x : List UInt8) : (keysV ks).set i (.agg (bytesV x)) = keysV (ks.set i x) := by simp [keysV, List.map_set]
theorem rep_keysV (n : Nat) (k : List UInt8) : List.replicate n (V.agg (bytesV k)) = keysV (List.replicate n k) := by simp [keysV]
theorem cellsL_keysV (ks : List (List UInt8)) : cellsL (keysV ks) = bytesV ks.flatten := by
  induction ks with
  | nil => rfl
  | cons k ks ih =>
    simp only [keysV, cellsL, List.map_cons, List.flatMap_cons, List.flatten_cons, V.cells] at ih ⊢
    rw [ih, bytesV_append]
theorem chunk_keysV (ks : List (List UInt8)) (h : ∀ k ∈ ks, k.length = 16) : chunk 16 ks.length (bytesV ks.flatten) = keysV ks := by
  induction ks with
  | nil => rfl
  | cons k ks ih =>
    have hk := h k (by simp)
    simp only [List.length_cons, chunk, List.flatten_cons, keysV, List.map_cons]
    rw [bytesV_take, bytesV_drop, List.take_append_of_le_length (by omega), List.take_of_length_le (by omega), List.drop_append_of_le_length (by omega), List.drop_of_length_le (by omega), List.nil_append, ih fun k' hk' => h k' (by simp [hk'])]
    rfl
theorem flat_len (ks : List (List UInt8)) (h : ∀ k ∈ ks, k.length = 16) : ks.flatten.length = 16 * ks.length := by
  induction ks with
  | nil => rfl
  | cons k ks ih => simp only [List.flatten_cons, List.length_append, h k (by simp), ih fun k' hk' => h k' (by simp [hk']), List.length_cons]; omega
theorem rowOf_keysV (ks : List (List UInt8)) (h : ∀ k ∈ ks, k.length = 16) : rowOf 16 (bytesV ks.flatten) = keysV ks := by
  have hl := flat_len ks h
  simp only [rowOf, bytesV_length, hl]
  rw [if_neg (by omega), Nat.mul_div_cancel_left _ (by omega), chunk_keysV ks h]
theorem tmodn {i : Nat} {n : Int} (h0 : 0 ≤ n) : (i : Int).tmod n = ((i % n.toNat : Nat) : Int) := by
  obtain ⟨m, rfl⟩ := Int.eq_ofNat_of_zero_le h0
  rw [Int.toNat_natCast]
  exact (Int.ofNat_tmod i m).symm
include hD
def keyIn (was : List UInt8) (j : Nat) (s : List UInt8 × List UInt8) : List UInt8 × List UInt8 :=
  (s.1.set (j % 4) (s.1.getD (j % 4) 0 ^^^ was.getD j 0), s.2.set j ((s.1.set (j % 4) (s.1.getD (j % 4) 0 ^^^ was.getD j 0)).getD (j % 4) 0))
def keyD (z : List V) (ks : List (List UInt8)) (was : List UInt8) (p : UInt8) (i : Nat) (s : List UInt8 × List UInt8) (j : Nat) : St :=
  ⟨envOf 72 [(2, .hp 0 0 0), (4, .hp 1 0 0), (5, .int .u8 p.toNat), (6, .int .i64 i), (7, .hp 2 0 0), (8, .hp 1 i 0), (9, .hp 3 0 0), (48, .int .i64 j)], [(0, .row z 16), (1, .row (keysV (ks.set i s.2)) 16), (2, .row (bytesV was) 1), (3, .row (bytesV s.1) 1)], 4, 0⟩
theorem key_in (n : Nat) (z : List V) (ks : List (List UInt8)) (was : List UInt8) (p : UInt8) (i : Nat) (s : List UInt8 × List UInt8) (j : Nat) (hi : i < 11) (hj : j < 16) (hks : ks.length = 11) (hw : was.length = 16) (h1 : s.1.length = 4) (h2 : s.2.length = 16) :
    round (exec (callN D n) D.lend D.gl l_aes_Keys_0) (canon [2, 4, 5, 6, 7, 8, 9, 48]) (keyD z ks was p i s j) = some (keyD z ks was p i (keyIn was j s) (j + 1)) := by
  have a1 : ((j : Int) < 16) = True := by simp; omega
  have a6 : (j < 16) = True := by simp; omega
  have a7 : (j % 4 < 4) = True := by simp; omega
  have a8 : (i < 11) = True := by simp; omega
  have a9 : (ks.set i s.2).getD i [] = s.2 := by rw [List.getD_eq_getElem?_getD, List.getElem?_set_self (by omega)]; rfl
  have a10 : ∀ x, (ks.set i s.2).set i x = ks.set i x := fun x => by rw [List.set_set]
  simp (maxSteps := 10000000) (disch := first | decide | omega | assumption | rfl | (simp only [List.length_set, List.length_append, List.length_take, List.length_drop, List.length_cons, List.length_nil]; omega)) only [go_sem, Nat.reduceAdd, Nat.reduceSub, Nat.reduceMul, Nat.reduceEqDiff, Nat.reduceLT, Nat.reduceLeDiff, Nat.reduceMod, Nat.reduceDiv, Nat.reduceBEq, Int.reduceLE, Int.reduceEq, Int.reduceLT, Int.reduceToNat, Int.reduceAdd, Int.reduceSub, Int.reduceNeg, reduceIte, reduceCtorEq, Int.reduceMul, l_aes_Keys_0, keyD, keyIn, a1, a6, a7, a8, a9, a10, hks, hw, h1, h2, tmodn, bytesV_at, keysV_at, keysV_set, keysV_length, List.length_set, bin8_shl, bin8_shr, bin8_mul, bin8_xor, bin8_and, bin8_or, bin8_add, bin8_sub, wrap8, un8_not]
  all_goals rfl

omit hD in
theorem set_getD_self {α : Type} (l : List α) (i : Nat) (d : α) (h : i < l.length) : l.set i (l.getD i d) = l := by
  apply List.ext_getElem?
  intro j
  rw [List.getElem?_set]
  split
  · rename_i e; subst e; rw [getD_some d h]
  · rfl
omit hD in
theorem keyIn_len (was : List UInt8) (s : List UInt8 × List UInt8) (n : Nat) : (upTo (keyIn was) n s).1.length = s.1.length ∧ (upTo (keyIn was) n s).2.length = s.2.length :=
  upTo_inv (fun (l : List UInt8 × List UInt8) => l.1.length = s.1.length ∧ l.2.length = s.2.length) ⟨rfl, rfl⟩ fun i _ l hl => by simpa [keyIn] using hl
theorem key_loop_in (n : Nat) (z : List V) (ks : List (List UInt8)) (was : List UInt8) (p : UInt8) (i : Nat) (s : List UInt8 × List UInt8) (hi : i < 11) (hks : ks.length = 11) (hw : was.length = 16) (h1 : s.1.length = 4) (h2 : s.2.length = 16) :
    fromHead (callN D n) D.lend D.gl [2, 4, 5, 6, 7, 8, 9, 48] l_aes_Keys_0 (some (keyD z ks was p i s 0)) = some (.exit 2, (fun s => ⟨envOf 72 [(2, .hp 0 0 0), (4, .hp 1 0 0), (5, .int .u8 p.toNat), (6, .int .i64 i), (7, .hp 2 0 0), (8, .hp 1 i 0), (9, .hp 3 0 0), (48, .int .i64 16), (49, .bool false)], [(0, .row z 16), (1, .row (keysV (ks.set i s.2)) 16), (2, .row (bytesV was) 1), (3, .row (bytesV s.1) 1)], 5, 0⟩) (upTo (keyIn was) 16 s)) := by
  refine x_loop (fun j => keyD z ks was p i (upTo (keyIn was) j s) j) 16 (by simp) (by simp [loopFuel]) (fun j hj => ?_) ?_
  · exact key_in D hD n z ks was p i _ j hi hj hks hw ((keyIn_len _ _ _).1.trans h1) ((keyIn_len _ _ _).2.trans h2)
  · simp (maxSteps := 10000000) (disch := first | decide | omega | assumption | rfl | (simp only [List.length_set, List.length_append, List.length_take, List.length_drop, List.length_cons, List.length_nil]; omega)) only [go_sem, Nat.reduceAdd, Nat.reduceSub, Nat.reduceMul, Nat.reduceEqDiff, Nat.reduceLT, Nat.reduceLeDiff, Nat.reduceMod, Nat.reduceDiv, Nat.reduceBEq, Int.reduceLE, Int.reduceEq, Int.reduceLT, Int.reduceToNat, Int.reduceAdd, Int.reduceSub, Int.reduceNeg, reduceIte, reduceCtorEq, Int.reduceMul, l_aes_Keys_0, keyD]
def boxS (x : UInt8) : UInt8 := boxT.getD x.toNat 0
omit hD in
theorem box_at (x : UInt8) : (bytesV boxT)[x.toNat]? = some (.int .u8 (boxS x).toNat) := bytesV_at (by rw [boxT_length]; exact x.toNat_lt)
omit hD in
theorem u8_lt (x : UInt8) : ((x.toNat : Int) < 256) = True := by have := x.toNat_lt; simp; omega
def keyLast (was : List UInt8) (p : UInt8) : List UInt8 := [boxS (was.getD 13 0) ^^^ p, boxS (was.getD 14 0), boxS (was.getD 15 0), boxS (was.getD 12 0)]
def keyRow (ks : List (List UInt8)) (p : UInt8) (i : Nat) : List UInt8 := (upTo (keyIn (ks.getD (i - 1) [])) 16 (keyLast (ks.getD (i - 1) []) p, ks.getD i [])).2
def keyStep (j : Nat) (s : List (List UInt8) × UInt8) : List (List UInt8) × UInt8 := (s.1.set (j + 1) (keyRow s.1 s.2 (j + 1)), twiceS s.2)
def keysC (z : List V) (i : Nat) (s : List (List UInt8) × UInt8) : St := ⟨envOf 72 [(2, .hp 0 0 0), (4, .hp 1 0 0), (5, .int .u8 s.2.toNat), (6, .int .i64 i)], [(0, .row z 16), (1, .row (keysV s.1) 16)], 2, 0⟩
omit hD in
theorem splice4 (a b c d : UInt8) : splices [(0, 1, .int .u8 a.toNat), (1, 1, .int .u8 b.toNat), (2, 1, .int .u8 c.toNat), (3, 1, .int .u8 d.toNat)] (bytesV (List.replicate 4 0)) = some (bytesV [a, b, c, d]) := by kernel_rfl
theorem keys_round (n : Nat) (z : List V) (j : Nat) (s : List (List UInt8) × UInt8) (hj : j < 10) (hks : s.1.length = 11) (hk : ∀ i, i < 11 → (s.1.getD i []).length = 16) :
    round (exec (callN D (n + 2)) D.lend D.gl l_aes_Keys_1) (canon [2, 4, 5, 6]) (keysC z (j + 1) s) = some (keysC z (j + 2) (keyStep j s)) := by
  have a1 : (((j + 1 : Nat) : Int) ≤ 10) = True := by simp; omega
  have a6 : (j + 1 < 11) = True := by simp; omega
  have a7 : (j < 11) = True := by simp; omega
  have a8 : IntKind.i64.wrap (((j + 1 : Nat) : Int) - 1) = (j : Int) := by rw [wrapi (by omega) (by omega)]; omega
  have a9 : IntKind.i64.wrap (((j + 1 : Nat) : Int) + 1) = ((j + 2 : Nat) : Int) := by rw [wrapi (by omega) (by omega)]; omega
  have k1 := hk j (by omega)
  have hb : D.lend n_aes_box = [] := lend_of hD fn_aes_box
  have ht : D.lend n_aes_twice = [true] := lend_of hD fn_aes_twice
  have hl := key_loop_in D hD (n + 2) z s.1 (s.1.getD j []) s.2 (j + 1) (keyLast (s.1.getD j []) s.2, s.1.getD (j + 1) []) (by omega) hks k1 rfl (hk (j + 1) (by omega))
  rw [show upTo (keyIn (s.1.getD j [])) 16 (keyLast (s.1.getD j []) s.2, s.1.getD (j + 1) []) = (upTo (keyIn (s.1.getD j [])) 16 (keyLast (s.1.getD j []) s.2, s.1.getD (j + 1) [])) from rfl] at hl
  have e1 : (upTo (keyIn (s.1.getD j [])) 16 (keyLast (s.1.getD j []) s.2, s.1.getD (j + 1) [])).2 = keyRow s.1 s.2 (j + 1) := rfl
  have e0 := set_getD_self s.1 (j + 1) [] (by omega)
  simp (maxSteps := 10000000) (disch := first | decide | omega | assumption | rfl | (simp only [List.length_set, List.length_append, List.length_take, List.length_drop, List.length_cons, List.length_nil]; omega)) only [go_sem, Nat.reduceAdd, Nat.reduceSub, Nat.reduceMul, Nat.reduceEqDiff, Nat.reduceLT, Nat.reduceLeDiff, Nat.reduceMod, Nat.reduceDiv, Nat.reduceBEq, Int.reduceLE, Int.reduceEq, Int.reduceLT, Int.reduceToNat, Int.reduceAdd, Int.reduceSub, Int.reduceNeg, reduceIte, reduceCtorEq, Int.reduceMul, keyD, e0, e1, keyLast] at hl
  simp (maxSteps := 10000000) (disch := first | decide | omega | assumption | rfl | (simp only [List.length_set, List.length_append, List.length_take, List.length_drop, List.length_cons, List.length_nil]; omega)) only [go_sem, Nat.reduceAdd, Nat.reduceSub, Nat.reduceMul, Nat.reduceEqDiff, Nat.reduceLT, Nat.reduceLeDiff, Nat.reduceMod, Nat.reduceDiv, Nat.reduceBEq, Int.reduceLE, Int.reduceEq, Int.reduceLT, Int.reduceToNat, Int.reduceAdd, Int.reduceSub, Int.reduceNeg, reduceIte, reduceCtorEq, Int.reduceMul, l_aes_Keys_1, keysC, keyStep, a1, a6, a7, a8, a9, hl, hks, k1, hb, ht, c_aes_box D hD, c_aes_twice D hD, box_at, u8_lt, splice4, bytesV_at, keysV_at, keysV_set, keysV_length, bin8_shl, bin8_shr, bin8_mul, bin8_xor, bin8_and, bin8_or, bin8_add, bin8_sub, wrap8, un8_not]
  all_goals rfl

def keys0 (key : List UInt8) : List (List UInt8) := (List.replicate 11 (List.replicate 16 0)).set 0 key
def keysS (key : List UInt8) : List (List UInt8) := (upTo keyStep 10 (keys0 key, 1)).1
omit hD in
theorem keyRow_len (ks : List (List UInt8)) (p : UInt8) (i : Nat) : (keyRow ks p i).length = (ks.getD i []).length := (keyIn_len _ _ _).2
omit hD in
theorem keyStep_inv (s : List (List UInt8) × UInt8) (h : s.1.length = 11 ∧ ∀ i, i < 11 → (s.1.getD i []).length = 16) (j : Nat) (hj : j < 10) :
    (keyStep j s).1.length = 11 ∧ ∀ i, i < 11 → ((keyStep j s).1.getD i []).length = 16 := by
  refine ⟨by simp [keyStep, h.1], fun i hi => ?_⟩
  simp only [keyStep, List.getD_eq_getElem?_getD, List.getElem?_set]
  split
  · rw [if_pos (by omega)]
    simp only [Option.getD_some, keyRow_len]
    exact h.2 _ (by omega)
  · rw [← List.getD_eq_getElem?_getD]; exact h.2 i hi
omit hD in
theorem keys_inv (key : List UInt8) (hk : key.length = 16) (n : Nat) (hn : n ≤ 10) :
    (upTo keyStep n (keys0 key, 1)).1.length = 11 ∧ ∀ i, i < 11 → ((upTo keyStep n (keys0 key, 1)).1.getD i []).length = 16 := by
  refine upTo_inv (fun (s : List (List UInt8) × UInt8) => s.1.length = 11 ∧ ∀ i, i < 11 → (s.1.getD i []).length = 16) ⟨by simp [keys0], fun i hi => ?_⟩ fun i hi a ha => keyStep_inv a ha i (by omega)
  simp only [keys0, List.getD_eq_getElem?_getD, List.getElem?_set, List.getElem?_replicate]
  split
  · simp [hk]
  · simp
omit hD in
theorem keysS_length (key : List UInt8) (hk : key.length = 16) : (keysS key).length = 11 := (keys_inv key hk 10 (by omega)).1
omit hD in
theorem keysS_at (key : List UInt8) (hk : key.length = 16) (i : Nat) (hi : i < 11) : ((keysS key).getD i []).length = 16 := (keys_inv key hk 10 (by omega)).2 i hi
omit hD in
theorem all16 {ks : List (List UInt8)} (hl : ks.length = 11) (h : ∀ i, i < 11 → (ks.getD i []).length = 16) : ∀ k ∈ ks, k.length = 16 := fun k hk => by
  obtain ⟨i, hi, rfl⟩ := List.getElem_of_mem hk
  have := h i (by omega)
  rwa [List.getD_eq_getElem?_getD, List.getElem?_eq_getElem hi] at this
theorem keys_loop (n : Nat) (z : List V) (key : List UInt8) (hk : key.length = 16) :
    fromHead (callN D (n + 2)) D.lend D.gl [2, 4, 5, 6] l_aes_Keys_1 (some (keysC z 1 (keys0 key, 1))) = some (.exit 0, (fun s : List (List UInt8) × UInt8 => ⟨envOf 72 [(2, .hp 0 0 0), (4, .hp 1 0 0), (5, .int .u8 s.2.toNat), (6, .int .i64 11), (19, .int .i64 11), (20, .bool false)], [(0, .row z 16), (1, .row (keysV s.1) 16)], 4, 0⟩) (upTo keyStep 10 (keys0 key, 1))) := by
  refine x_loop (fun j => keysC z (j + 1) (upTo keyStep j (keys0 key, 1))) 10 (by simp) (by simp [loopFuel]) (fun j hj => ?_) ?_
  · exact keys_round D hD n z j _ hj (keys_inv key hk j (by omega)).1 (keys_inv key hk j (by omega)).2
  · simp (maxSteps := 10000000) (disch := first | decide | omega | assumption | rfl | (simp only [List.length_set, List.length_append, List.length_take, List.length_drop, List.length_cons, List.length_nil]; omega)) only [go_sem, Nat.reduceAdd, Nat.reduceSub, Nat.reduceMul, Nat.reduceEqDiff, Nat.reduceLT, Nat.reduceLeDiff, Nat.reduceMod, Nat.reduceDiv, Nat.reduceBEq, Int.reduceLE, Int.reduceEq, Int.reduceLT, Int.reduceToNat, Int.reduceAdd, Int.reduceSub, Int.reduceNeg, reduceIte, reduceCtorEq, Int.reduceMul, l_aes_Keys_1, keysC]
theorem c_aes_Keys (n : Nat) (key : List UInt8) (hk : key.length = 16) :
    callN D (n + 3) n_aes_Keys [.sl (bytesV key) 1] [] = some (.tup [.agg (bytesV (keysS key).flatten), .int .i64 0], []) := by
  have h1 := keysS_length key hk
  have h2 := all16 h1 (keysS_at key hk)
  have h3 : (keysS key).flatten.length = 176 := by rw [flat_len (keysS key) h2, h1]
  have h4 := chunk_keysV (keysS key) h2
  rw [h1] at h4
  have h5 : List.take 11 (keysV (keysS key)) = keysV (keysS key) := List.take_of_length_le (by rw [keysV_length, h1]; omega)
  refine call_fn (hD _ _ fn_aes_Keys) (run_ret (s := ?ss) ?hh ?kk)
  case hh =>
    have hl := keys_loop D hD n (keysV (List.replicate 11 (List.replicate 16 0))) key hk
    have e1 : (upTo keyStep 10 (keys0 key, 1)).1 = keysS key := rfl
    have e2 : keys0 key = (List.replicate 11 (List.replicate 16 0)).set 0 key := rfl
    have e3 : ((UInt8.toNat 1 : Nat) : Int) = 1 := rfl
    have e4 : ((16 : Int) != 16) = false := rfl
    simp (maxSteps := 10000000) (disch := first | decide | omega | assumption | rfl | (simp only [List.length_set, List.length_append, List.length_take, List.length_drop, List.length_cons, List.length_nil]; omega)) only [go_sem, Nat.reduceAdd, Nat.reduceSub, Nat.reduceMul, Nat.reduceEqDiff, Nat.reduceLT, Nat.reduceLeDiff, Nat.reduceMod, Nat.reduceDiv, Nat.reduceBEq, Int.reduceLE, Int.reduceEq, Int.reduceLT, Int.reduceToNat, Int.reduceAdd, Int.reduceSub, Int.reduceNeg, reduceIte, reduceCtorEq, Int.reduceMul, keysC, e1, e3] at hl
    simp only [e2] at hl
    simp (maxSteps := 10000000) (disch := first | decide | omega | assumption | rfl | (simp only [List.length_set, List.length_append, List.length_take, List.length_drop, List.length_cons, List.length_nil]; omega)) only [go_sem, Nat.reduceAdd, Nat.reduceSub, Nat.reduceMul, Nat.reduceEqDiff, Nat.reduceLT, Nat.reduceLeDiff, Nat.reduceMod, Nat.reduceDiv, Nat.reduceBEq, Int.reduceLE, Int.reduceEq, Int.reduceLT, Int.reduceToNat, Int.reduceAdd, Int.reduceSub, Int.reduceNeg, reduceIte, reduceCtorEq, Int.reduceMul, d_aes_Keys, s2apV, rep_keysV, hl, hk, e2, e4, keysV_at, keysV_set, keysV_length, cellsL_keysV, h1, h3, h4, h5]
    all_goals with_reducible rfl
  case kk =>
    simp (maxSteps := 10000000) (disch := first | decide | omega | assumption | rfl | (simp only [List.length_set, List.length_append, List.length_take, List.length_drop, List.length_cons, List.length_nil]; omega)) only [go_sem, Nat.reduceAdd, Nat.reduceSub, Nat.reduceMul, Nat.reduceEqDiff, Nat.reduceLT, Nat.reduceLeDiff, Nat.reduceMod, Nat.reduceDiv, Nat.reduceBEq, Int.reduceLE, Int.reduceEq, Int.reduceLT, Int.reduceToNat, Int.reduceAdd, Int.reduceSub, Int.reduceNeg, reduceIte, reduceCtorEq, Int.reduceMul, d_aes_Keys, keysV_length, cellsL_keysV, h1, h3, h5]
end Go.Dm.T
set_option linter.unusedSimpArgs false
set_option linter.unusedVariables false
set_option linter.unusedSectionVars false
namespace Go.Dm.T
open Go.Dm
variable (D : DProg) (hD : ∀ f F, fnT f = some F → D.fn f = some F)
include hD

theorem c_aes_start (n : Nat) (key b : List UInt8) (hk : key.length = 16) (hb : b.length = 16) :
    callN D (n + 4) n_aes_start [.sl (bytesV key) 1, .sl (bytesV b) 1] [] = some (.tup [.hp 0 0 0, .agg (bytesV (keysS key).flatten), .int .i64 0], [(0, .row (bytesV b) 1)]) := by
  have h1 := keysS_length key hk
  have h2 := all16 h1 (keysS_at key hk)
  have h3 : (keysS key).flatten.length = 176 := by rw [flat_len (keysS key) h2, h1]
  have h4 := chunk_keysV (keysS key) h2
  rw [h1] at h4
  have h5 : List.take 11 (keysV (keysS key)) = keysV (keysS key) := List.take_of_length_le (by rw [keysV_length, h1]; omega)
  have hl : D.lend n_aes_Keys = [true] := lend_of hD fn_aes_Keys
  have e0 : ((0 : Int) != 0) = false := rfl
  have e4 : ((16 : Int) != 16) = false := rfl
  refine call_fn (hD _ _ fn_aes_start) (run_ret (s := ?ss) ?hh ?kk)
  case hh =>
    simp (maxSteps := 10000000) (disch := first | decide | omega | assumption | rfl | (simp only [List.length_set, List.length_append, List.length_take, List.length_drop, List.length_cons, List.length_nil]; omega)) only [go_sem, Nat.reduceAdd, Nat.reduceSub, Nat.reduceMul, Nat.reduceEqDiff, Nat.reduceLT, Nat.reduceLeDiff, Nat.reduceMod, Nat.reduceDiv, Nat.reduceBEq, Int.reduceLE, Int.reduceEq, Int.reduceLT, Int.reduceToNat, Int.reduceAdd, Int.reduceSub, Int.reduceNeg, reduceIte, reduceCtorEq, Int.reduceMul, d_aes_start, s2apV, wantB, rep_keysV, hl, hk, hb, e0, e4, c_aes_Keys D hD _ key hk, keysV_at, keysV_set, keysV_length, cellsL_keysV, h1, h3, h4, h5]
    all_goals with_reducible rfl
  case kk =>
    simp (maxSteps := 10000000) (disch := first | decide | omega | assumption | rfl | (simp only [List.length_set, List.length_append, List.length_take, List.length_drop, List.length_cons, List.length_nil]; omega)) only [go_sem, Nat.reduceAdd, Nat.reduceSub, Nat.reduceMul, Nat.reduceEqDiff, Nat.reduceLT, Nat.reduceLeDiff, Nat.reduceMod, Nat.reduceDiv, Nat.reduceBEq, Int.reduceLE, Int.reduceEq, Int.reduceLT, Int.reduceToNat, Int.reduceAdd, Int.reduceSub, Int.reduceNeg, reduceIte, reduceCtorEq, Int.reduceMul, d_aes_start, keysV_length, cellsL_keysV, h1, h3, h5]

def subStep (j : Nat) (b : List UInt8) : List UInt8 := b.set j (boxS (b.getD j 0))
def subS (b : List UInt8) : List UInt8 := upTo subStep 16 b
omit hD in
theorem sub_len (b : List UInt8) (n : Nat) : (upTo subStep n b).length = b.length :=
  upTo_inv (fun (l : List UInt8) => l.length = b.length) rfl fun i _ l hl => by rw [subStep, List.length_set, hl]
def encD (ks : List (List UInt8)) (i : Nat) (b : List UInt8) (j : Nat) : St := ⟨envOf 62 [(6, .hp 0 0 0), (7, .hp 1 0 0), (8, .int .i64 0), (9, .int .i64 i), (30, .hp 0 0 0), (31, .int .i64 j)], [(0, .row (bytesV b) 1), (1, .row (keysV ks) 16)], 2, 0⟩
theorem sub_round (n : Nat) (ks : List (List UInt8)) (i : Nat) (b : List UInt8) (j : Nat) (hj : j < 16) (hb : b.length = 16) :
    round (exec (callN D (n + 1)) D.lend D.gl l_aes_Encrypt_0) (canon [6, 7, 8, 9, 30, 31]) (encD ks i b j) = some (encD ks i (subStep j b) (j + 1)) := by
  have a1 : ((j : Int) < 16) = True := by simp; omega
  have a6 : (j < 16) = True := by simp; omega
  have hl : D.lend n_aes_box = [] := lend_of hD fn_aes_box
  simp (maxSteps := 10000000) (disch := first | decide | omega | assumption | rfl | (simp only [List.length_set, List.length_append, List.length_take, List.length_drop, List.length_cons, List.length_nil]; omega)) only [go_sem, Nat.reduceAdd, Nat.reduceSub, Nat.reduceMul, Nat.reduceEqDiff, Nat.reduceLT, Nat.reduceLeDiff, Nat.reduceMod, Nat.reduceDiv, Nat.reduceBEq, Int.reduceLE, Int.reduceEq, Int.reduceLT, Int.reduceToNat, Int.reduceAdd, Int.reduceSub, Int.reduceNeg, reduceIte, reduceCtorEq, Int.reduceMul, l_aes_Encrypt_0, encD, subStep, a1, a6, hb, hl, c_aes_box D hD, box_at, u8_lt, bytesV_at, bin8_shl, bin8_shr, bin8_mul, bin8_xor, bin8_and, bin8_or, bin8_add, bin8_sub, wrap8, un8_not]
  all_goals rfl
theorem sub_loop (n : Nat) (ks : List (List UInt8)) (i : Nat) (b : List UInt8) (hb : b.length = 16) :
    fromHead (callN D (n + 1)) D.lend D.gl [6, 7, 8, 9, 30, 31] l_aes_Encrypt_0 (some (encD ks i b 0)) = some (.exit 2, ⟨envOf 62 [(6, .hp 0 0 0), (7, .hp 1 0 0), (8, .int .i64 0), (9, .int .i64 i), (30, .hp 0 0 0), (31, .int .i64 16), (32, .bool false)], [(0, .row (bytesV (subS b)) 1), (1, .row (keysV ks) 16)], 3, 0⟩) := by
  refine x_loop (fun j => encD ks i (upTo subStep j b) j) 16 (by simp) (by simp [loopFuel]) (fun j hj => ?_) ?_
  · exact sub_round D hD n ks i _ j hj (by rw [sub_len, hb])
  · simp (maxSteps := 10000000) (disch := first | decide | omega | assumption | rfl | (simp only [List.length_set, List.length_append, List.length_take, List.length_drop, List.length_cons, List.length_nil]; omega)) only [go_sem, Nat.reduceAdd, Nat.reduceSub, Nat.reduceMul, Nat.reduceEqDiff, Nat.reduceLT, Nat.reduceLeDiff, Nat.reduceMod, Nat.reduceDiv, Nat.reduceBEq, Int.reduceLE, Int.reduceEq, Int.reduceLT, Int.reduceToNat, Int.reduceAdd, Int.reduceSub, Int.reduceNeg, reduceIte, reduceCtorEq, Int.reduceMul, l_aes_Encrypt_0, encD, subS]
def encStep (ks : List (List UInt8)) (j : Nat) (b : List UInt8) : List UInt8 :=
  xorS (if j + 1 < 10 then mixS (turnS (subS b) 1) [2, 3, 1, 1] else turnS (subS b) 1) (ks.getD (j + 1) [])
omit hD in
theorem encStep_len (ks : List (List UInt8)) (j : Nat) (b : List UInt8) : (encStep ks j b).length = b.length := by
  rw [encStep, xorS_length]
  split
  · rw [mixS_length, turnS_length, subS, sub_len]
  · rw [turnS_length, subS, sub_len]
def encC (ks : List (List UInt8)) (i : Nat) (b : List UInt8) : St := ⟨envOf 62 [(6, .hp 0 0 0), (7, .hp 1 0 0), (8, .int .i64 0), (9, .int .i64 i)], [(0, .row (bytesV b) 1), (1, .row (keysV ks) 16)], 2, 0⟩
theorem enc_round (n : Nat) (ks : List (List UInt8)) (j : Nat) (b : List UInt8) (hj : j < 10) (hb : b.length = 16) (hks : ks.length = 11) (hk : ∀ i, i < 11 → (ks.getD i []).length = 16) :
    round (exec (callN D (n + 3)) D.lend D.gl l_aes_Encrypt_1) (canon [6, 7, 8, 9]) (encC ks (j + 1) b) = some (encC ks (j + 2) (encStep ks j b)) := by
  have a1 : (((j + 1 : Nat) : Int) ≤ 10) = True := by simp; omega
  have a6 : (j + 1 < 11) = True := by simp; omega
  have a9 : IntKind.i64.wrap (((j + 1 : Nat) : Int) + 1) = ((j + 2 : Nat) : Int) := by rw [wrapi (by omega) (by omega)]; omega
  have k1 := hk (j + 1) (by omega)
  have hs : (subS b).length = 16 := by rw [subS, sub_len, hb]
  have ht : (turnS (subS b) 1).length = 16 := by rw [turnS_length, hs]
  have hm : (mixS (turnS (subS b) 1) [2, 3, 1, 1]).length = 16 := by rw [mixS_length, ht]
  have l1 : D.lend n_aes_block_turn = [false, true] := lend_of hD fn_aes_block_turn
  have l2 : D.lend n_aes_block_mix = [false, true] := lend_of hD fn_aes_block_mix
  have l3 : D.lend n_aes_block_xor = [false, true] := lend_of hD fn_aes_block_xor
  have hl := sub_loop D hD (n + 2) ks (j + 1) b hb
  have c1 := c_aes_block_turn D hD (n + 2) (subS b) 1 (.inl rfl) hs
  have c2 := c_aes_block_mix D hD n (turnS (subS b) 1) [2, 3, 1, 1] ht rfl
  have c3 := c_aes_block_xor D hD (n + 2) (mixS (turnS (subS b) 1) [2, 3, 1, 1]) (ks.getD (j + 1) []) hm k1
  have c4 := c_aes_block_xor D hD (n + 2) (turnS (subS b) 1) (ks.getD (j + 1) []) ht k1
  have sp : splices [(0, 1, .int .u8 2), (1, 1, .int .u8 3), (2, 1, .int .u8 1), (3, 1, .int .u8 1)] (bytesV (List.replicate 4 0)) = some (bytesV [2, 3, 1, 1]) := by kernel_rfl
  simp (maxSteps := 10000000) (disch := first | decide | omega | assumption | rfl | (simp only [List.length_set, List.length_append, List.length_take, List.length_drop, List.length_cons, List.length_nil]; omega)) only [go_sem, Nat.reduceAdd, Nat.reduceSub, Nat.reduceMul, Nat.reduceEqDiff, Nat.reduceLT, Nat.reduceLeDiff, Nat.reduceMod, Nat.reduceDiv, Nat.reduceBEq, Int.reduceLE, Int.reduceEq, Int.reduceLT, Int.reduceToNat, Int.reduceAdd, Int.reduceSub, Int.reduceNeg, reduceIte, reduceCtorEq, Int.reduceMul, encD] at hl
  simp only [ncast1] at c1
  by_cases h9 : j + 1 < 10
  · have a2 : (((j + 1 : Nat) : Int) < 10) = True := by simp; omega
    have e : encStep ks j b = xorS (mixS (turnS (subS b) 1) [2, 3, 1, 1]) (ks.getD (j + 1) []) := by rw [encStep, if_pos h9]
    simp (maxSteps := 10000000) (disch := first | decide | omega | assumption | rfl | (simp only [List.length_set, List.length_append, List.length_take, List.length_drop, List.length_cons, List.length_nil]; omega)) only [go_sem, Nat.reduceAdd, Nat.reduceSub, Nat.reduceMul, Nat.reduceEqDiff, Nat.reduceLT, Nat.reduceLeDiff, Nat.reduceMod, Nat.reduceDiv, Nat.reduceBEq, Int.reduceLE, Int.reduceEq, Int.reduceLT, Int.reduceToNat, Int.reduceAdd, Int.reduceSub, Int.reduceNeg, reduceIte, reduceCtorEq, Int.reduceMul, l_aes_Encrypt_1, encC, e, a1, a2, a6, a9, hl, hb, hs, ht, hm, hks, k1, l1, l2, l3, c1, c2, c3, sp, bytesV_at, keysV_at, keysV_set, keysV_length]
    all_goals rfl
  · have a2 : (((j + 1 : Nat) : Int) < 10) = False := by simp; omega
    have e : encStep ks j b = xorS (turnS (subS b) 1) (ks.getD (j + 1) []) := by rw [encStep, if_neg h9]
    simp (maxSteps := 10000000) (disch := first | decide | omega | assumption | rfl | (simp only [List.length_set, List.length_append, List.length_take, List.length_drop, List.length_cons, List.length_nil]; omega)) only [go_sem, Nat.reduceAdd, Nat.reduceSub, Nat.reduceMul, Nat.reduceEqDiff, Nat.reduceLT, Nat.reduceLeDiff, Nat.reduceMod, Nat.reduceDiv, Nat.reduceBEq, Int.reduceLE, Int.reduceEq, Int.reduceLT, Int.reduceToNat, Int.reduceAdd, Int.reduceSub, Int.reduceNeg, reduceIte, reduceCtorEq, Int.reduceMul, l_aes_Encrypt_1, encC, e, a1, a2, a6, a9, hl, hb, hs, ht, hm, hks, k1, l1, l2, l3, c1, c4, bytesV_at, keysV_at, keysV_set, keysV_length]
    all_goals rfl

def encS (key b : List UInt8) : List UInt8 := upTo (encStep (keysS key)) 10 (xorS b ((keysS key).getD 0 []))
omit hD in
theorem enc_len (ks : List (List UInt8)) (b : List UInt8) (n : Nat) : (upTo (encStep ks) n b).length = b.length :=
  upTo_inv (fun (l : List UInt8) => l.length = b.length) rfl fun i _ l hl => by rw [encStep_len, hl]
omit hD in
theorem encS_length (key b : List UInt8) : (encS key b).length = b.length := by rw [encS, enc_len, xorS_length]
theorem enc_loop (n : Nat) (ks : List (List UInt8)) (b : List UInt8) (hb : b.length = 16) (hks : ks.length = 11) (hk : ∀ i, i < 11 → (ks.getD i []).length = 16) :
    fromHead (callN D (n + 3)) D.lend D.gl [6, 7, 8, 9] l_aes_Encrypt_1 (some (encC ks 1 b)) = some (.exit 0, ⟨envOf 62 [(6, .hp 0 0 0), (7, .hp 1 0 0), (8, .int .i64 0), (9, .int .i64 11), (26, .int .i64 11), (27, .bool false)], [(0, .row (bytesV (upTo (encStep ks) 10 b)) 1), (1, .row (keysV ks) 16)], 4, 0⟩) := by
  refine x_loop (fun j => encC ks (j + 1) (upTo (encStep ks) j b)) 10 (by simp) (by simp [loopFuel]) (fun j hj => ?_) ?_
  · have hr := enc_round D hD n ks j (upTo (encStep ks) j b) hj (by rw [enc_len, hb]) hks hk
    simp only [upTo_succ]
    exact hr
  · simp (maxSteps := 10000000) (disch := first | decide | omega | assumption | rfl | (simp only [List.length_set, List.length_append, List.length_take, List.length_drop, List.length_cons, List.length_nil]; omega)) only [go_sem, Nat.reduceAdd, Nat.reduceSub, Nat.reduceMul, Nat.reduceEqDiff, Nat.reduceLT, Nat.reduceLeDiff, Nat.reduceMod, Nat.reduceDiv, Nat.reduceBEq, Int.reduceLE, Int.reduceEq, Int.reduceLT, Int.reduceToNat, Int.reduceAdd, Int.reduceSub, Int.reduceNeg, reduceIte, reduceCtorEq, Int.reduceMul, l_aes_Encrypt_1, encC]
theorem c_aes_Encrypt (n : Nat) (key b : List UInt8) (hk : key.length = 16) (hb : b.length = 16) :
    callN D (n + 5) n_aes_Encrypt [.sl (bytesV key) 1, .sl (bytesV b) 1] [] = some (.tup [.hs 0 0 16, .int .i64 0], [(0, .row (bytesV (encS key b)) 1)]) := by
  have h1 := keysS_length key hk
  have hk1 := keysS_at key hk
  have h2 := all16 h1 hk1
  have h3 : (keysS key).flatten.length = 176 := by rw [flat_len (keysS key) h2, h1]
  have h4 := chunk_keysV (keysS key) h2
  rw [h1] at h4
  have h5 : List.take 11 (keysV (keysS key)) = keysV (keysS key) := List.take_of_length_le (by rw [keysV_length, h1]; omega)
  have k0 := hk1 0 (by omega)
  have l1 : D.lend n_aes_start = [true, true] := lend_of hD fn_aes_start
  have l2 : D.lend n_aes_block_xor = [false, true] := lend_of hD fn_aes_block_xor
  have hx : (xorS b ((keysS key).getD 0 [])).length = 16 := by rw [xorS_length, hb]
  have e0 : ((0 : Int) != 0) = false := rfl
  have c1 := c_aes_start D hD n key b hk hb
  have c2 := c_aes_block_xor D hD (n + 3) b ((keysS key).getD 0 []) hb k0
  have hl := enc_loop D hD (n + 1) (keysS key) (xorS b ((keysS key).getD 0 [])) hx h1 hk1
  have he : (encS key b).length = 16 := by rw [encS_length, hb]
  rw [← encS] at hl
  simp (maxSteps := 10000000) (disch := first | decide | omega | assumption | rfl | (simp only [List.length_set, List.length_append, List.length_take, List.length_drop, List.length_cons, List.length_nil]; omega)) only [go_sem, Nat.reduceAdd, Nat.reduceSub, Nat.reduceMul, Nat.reduceEqDiff, Nat.reduceLT, Nat.reduceLeDiff, Nat.reduceMod, Nat.reduceDiv, Nat.reduceBEq, Int.reduceLE, Int.reduceEq, Int.reduceLT, Int.reduceToNat, Int.reduceAdd, Int.reduceSub, Int.reduceNeg, reduceIte, reduceCtorEq, Int.reduceMul, encC] at hl
  refine call_fn (hD _ _ fn_aes_Encrypt) (run_ret (s := ?ss) ?hh ?kk)
  case hh =>
    simp (maxSteps := 10000000) (disch := first | decide | omega | assumption | rfl | (simp only [List.length_set, List.length_append, List.length_take, List.length_drop, List.length_cons, List.length_nil]; omega)) only [go_sem, Nat.reduceAdd, Nat.reduceSub, Nat.reduceMul, Nat.reduceEqDiff, Nat.reduceLT, Nat.reduceLeDiff, Nat.reduceMod, Nat.reduceDiv, Nat.reduceBEq, Int.reduceLE, Int.reduceEq, Int.reduceLT, Int.reduceToNat, Int.reduceAdd, Int.reduceSub, Int.reduceNeg, reduceIte, reduceCtorEq, Int.reduceMul, d_aes_Encrypt, rep_keysV, hl, hk, hb, hx, he, k0, e0, l1, l2, c1, c2, keysV_at, keysV_set, keysV_length, cellsL_keysV, h1, h3, h4, h5]
    all_goals with_reducible rfl
  case kk =>
    simp (maxSteps := 10000000) (disch := first | decide | omega | assumption | rfl | (simp only [List.length_set, List.length_append, List.length_take, List.length_drop, List.length_cons, List.length_nil]; omega)) only [go_sem, Nat.reduceAdd, Nat.reduceSub, Nat.reduceMul, Nat.reduceEqDiff, Nat.reduceLT, Nat.reduceLeDiff, Nat.reduceMod, Nat.reduceDiv, Nat.reduceBEq, Int.reduceLE, Int.reduceEq, Int.reduceLT, Int.reduceToNat, Int.reduceAdd, Int.reduceSub, Int.reduceNeg, reduceIte, reduceCtorEq, Int.reduceMul, d_aes_Encrypt, he]

def ubStep (j : Nat) (b : List UInt8) : List UInt8 := b.set j (backS (b.getD j 0))
def ubS (b : List UInt8) : List UInt8 := upTo ubStep 16 b
omit hD in
theorem ub_len (b : List UInt8) (n : Nat) : (upTo ubStep n b).length = b.length :=
  upTo_inv (fun (l : List UInt8) => l.length = b.length) rfl fun i _ l hl => by rw [ubStep, List.length_set, hl]
def decD (ks : List (List UInt8)) (i : Nat) (b : List UInt8) (j : Nat) : St := ⟨envOf 60 [(6, .hp 0 0 0), (7, .hp 1 0 0), (8, .int .i64 0), (9, .int .i64 i), (38, .hp 0 0 0), (39, .int .i64 j)], [(0, .row (bytesV b) 1), (1, .row (keysV ks) 16)], 2, 0⟩
theorem ub_round (n : Nat) (ks : List (List UInt8)) (i : Nat) (b : List UInt8) (j : Nat) (hj : j < 16) (hb : b.length = 16) :
    round (exec (callN D (n + 2)) D.lend D.gl l_aes_Decrypt_0) (canon [6, 7, 8, 9, 38, 39]) (decD ks i b j) = some (decD ks i (ubStep j b) (j + 1)) := by
  have a1 : ((j : Int) < 16) = True := by simp; omega
  have a6 : (j < 16) = True := by simp; omega
  have hl : D.lend n_aes_back = [true] := lend_of hD fn_aes_back
  simp (maxSteps := 10000000) (disch := first | decide | omega | assumption | rfl | (simp only [List.length_set, List.length_append, List.length_take, List.length_drop, List.length_cons, List.length_nil]; omega)) only [go_sem, Nat.reduceAdd, Nat.reduceSub, Nat.reduceMul, Nat.reduceEqDiff, Nat.reduceLT, Nat.reduceLeDiff, Nat.reduceMod, Nat.reduceDiv, Nat.reduceBEq, Int.reduceLE, Int.reduceEq, Int.reduceLT, Int.reduceToNat, Int.reduceAdd, Int.reduceSub, Int.reduceNeg, reduceIte, reduceCtorEq, Int.reduceMul, l_aes_Decrypt_0, decD, ubStep, a1, a6, hb, hl, c_aes_back D hD, bytesV_at, bin8_shl, bin8_shr, bin8_mul, bin8_xor, bin8_and, bin8_or, bin8_add, bin8_sub, wrap8, un8_not]
  all_goals rfl
theorem ub_loop (n : Nat) (ks : List (List UInt8)) (i : Nat) (b : List UInt8) (hb : b.length = 16) :
    fromHead (callN D (n + 2)) D.lend D.gl [6, 7, 8, 9, 38, 39] l_aes_Decrypt_0 (some (decD ks i b 0)) = some (.exit 2, ⟨envOf 60 [(6, .hp 0 0 0), (7, .hp 1 0 0), (8, .int .i64 0), (9, .int .i64 i), (38, .hp 0 0 0), (39, .int .i64 16), (40, .bool false)], [(0, .row (bytesV (ubS b)) 1), (1, .row (keysV ks) 16)], 3, 0⟩) := by
  refine x_loop (fun j => decD ks i (upTo ubStep j b) j) 16 (by simp) (by simp [loopFuel]) (fun j hj => ?_) ?_
  · exact ub_round D hD n ks i _ j hj (by rw [ub_len, hb])
  · simp (maxSteps := 10000000) (disch := first | decide | omega | assumption | rfl | (simp only [List.length_set, List.length_append, List.length_take, List.length_drop, List.length_cons, List.length_nil]; omega)) only [go_sem, Nat.reduceAdd, Nat.reduceSub, Nat.reduceMul, Nat.reduceEqDiff, Nat.reduceLT, Nat.reduceLeDiff, Nat.reduceMod, Nat.reduceDiv, Nat.reduceBEq, Int.reduceLE, Int.reduceEq, Int.reduceLT, Int.reduceToNat, Int.reduceAdd, Int.reduceSub, Int.reduceNeg, reduceIte, reduceCtorEq, Int.reduceMul, l_aes_Decrypt_0, decD, ubS]
/-- Round 10 - j. -/
def decStep (ks : List (List UInt8)) (j : Nat) (b : List UInt8) : List UInt8 :=
  ubS (turnS (if 0 < j then mixS (xorS b (ks.getD (10 - j) [])) [14, 11, 13, 9] else xorS b (ks.getD (10 - j) [])) 3)
omit hD in
theorem decStep_len (ks : List (List UInt8)) (j : Nat) (b : List UInt8) : (decStep ks j b).length = b.length := by
  rw [decStep, ubS, ub_len, turnS_length]
  split
  · rw [mixS_length, xorS_length]
  · rw [xorS_length]
def decC (ks : List (List UInt8)) (i : Nat) (b : List UInt8) : St := ⟨envOf 60 [(6, .hp 0 0 0), (7, .hp 1 0 0), (8, .int .i64 0), (9, .int .i64 i)], [(0, .row (bytesV b) 1), (1, .row (keysV ks) 16)], 2, 0⟩
theorem dec_round (n : Nat) (ks : List (List UInt8)) (j : Nat) (b : List UInt8) (hj : j < 10) (hb : b.length = 16) (hks : ks.length = 11) (hk : ∀ i, i < 11 → (ks.getD i []).length = 16) :
    round (exec (callN D (n + 3)) D.lend D.gl l_aes_Decrypt_1) (canon [6, 7, 8, 9]) (decC ks (10 - j) b) = some (decC ks (9 - j) (decStep ks j b)) := by
  have a1 : (0 < (((10 - j : Nat)) : Int)) = True := by simp; omega
  have a6 : (10 - j < 11) = True := by simp; omega
  have a9 : IntKind.i64.wrap (((10 - j : Nat) : Int) - 1) = ((9 - j : Nat) : Int) := by rw [wrapi (by omega) (by omega)]; omega
  have k1 := hk (10 - j) (by omega)
  have hs : (xorS b (ks.getD (10 - j) [])).length = 16 := by rw [xorS_length, hb]
  have hm : (mixS (xorS b (ks.getD (10 - j) [])) [14, 11, 13, 9]).length = 16 := by rw [mixS_length, hs]
  have ht : (turnS (mixS (xorS b (ks.getD (10 - j) [])) [14, 11, 13, 9]) 3).length = 16 := by rw [turnS_length, hm]
  have ht2 : (turnS (xorS b (ks.getD (10 - j) [])) 3).length = 16 := by rw [turnS_length, hs]
  have l1 : D.lend n_aes_block_turn = [false, true] := lend_of hD fn_aes_block_turn
  have l2 : D.lend n_aes_block_mix = [false, true] := lend_of hD fn_aes_block_mix
  have l3 : D.lend n_aes_block_xor = [false, true] := lend_of hD fn_aes_block_xor
  have c3 := c_aes_block_xor D hD (n + 2) b (ks.getD (10 - j) []) hb k1
  have c2 := c_aes_block_mix D hD n (xorS b (ks.getD (10 - j) [])) [14, 11, 13, 9] hs rfl
  have sp : splices [(0, 1, .int .u8 14), (1, 1, .int .u8 11), (2, 1, .int .u8 13), (3, 1, .int .u8 9)] (bytesV (List.replicate 4 0)) = some (bytesV [14, 11, 13, 9]) := by kernel_rfl
  by_cases h9 : 0 < j
  · have a2 : (((10 - j : Nat) : Int) < 10) = True := by simp; omega
    have c1 := c_aes_block_turn D hD (n + 2) (mixS (xorS b (ks.getD (10 - j) [])) [14, 11, 13, 9]) 3 (.inr rfl) hm
    simp only [Int.cast_ofNat_Int] at c1
    have hl := ub_loop D hD (n + 1) ks (10 - j) (turnS (mixS (xorS b (ks.getD (10 - j) [])) [14, 11, 13, 9]) 3) ht
    simp (maxSteps := 10000000) (disch := first | decide | omega | assumption | rfl | (simp only [List.length_set, List.length_append, List.length_take, List.length_drop, List.length_cons, List.length_nil]; omega)) only [go_sem, Nat.reduceAdd, Nat.reduceSub, Nat.reduceMul, Nat.reduceEqDiff, Nat.reduceLT, Nat.reduceLeDiff, Nat.reduceMod, Nat.reduceDiv, Nat.reduceBEq, Int.reduceLE, Int.reduceEq, Int.reduceLT, Int.reduceToNat, Int.reduceAdd, Int.reduceSub, Int.reduceNeg, reduceIte, reduceCtorEq, Int.reduceMul, decD] at hl
    have e : decStep ks j b = ubS (turnS (mixS (xorS b (ks.getD (10 - j) [])) [14, 11, 13, 9]) 3) := by rw [decStep, if_pos h9]
    simp (maxSteps := 10000000) (disch := first | decide | omega | assumption | rfl | (simp only [List.length_set, List.length_append, List.length_take, List.length_drop, List.length_cons, List.length_nil]; omega)) only [go_sem, Nat.reduceAdd, Nat.reduceSub, Nat.reduceMul, Nat.reduceEqDiff, Nat.reduceLT, Nat.reduceLeDiff, Nat.reduceMod, Nat.reduceDiv, Nat.reduceBEq, Int.reduceLE, Int.reduceEq, Int.reduceLT, Int.reduceToNat, Int.reduceAdd, Int.reduceSub, Int.reduceNeg, reduceIte, reduceCtorEq, Int.reduceMul, l_aes_Decrypt_1, decC, e, a1, a2, a6, a9, hl, hb, hs, ht, hm, hks, k1, l1, l2, l3, c1, c2, c3, sp, bytesV_at, keysV_at, keysV_set, keysV_length]
    all_goals rfl
  · have a2 : (((10 - j : Nat) : Int) < 10) = False := by simp; omega
    have c1 := c_aes_block_turn D hD (n + 2) (xorS b (ks.getD (10 - j) [])) 3 (.inr rfl) hs
    simp only [Int.cast_ofNat_Int] at c1
    have hl := ub_loop D hD (n + 1) ks (10 - j) (turnS (xorS b (ks.getD (10 - j) [])) 3) ht2
    simp (maxSteps := 10000000) (disch := first | decide | omega | assumption | rfl | (simp only [List.length_set, List.length_append, List.length_take, List.length_drop, List.length_cons, List.length_nil]; omega)) only [go_sem, Nat.reduceAdd, Nat.reduceSub, Nat.reduceMul, Nat.reduceEqDiff, Nat.reduceLT, Nat.reduceLeDiff, Nat.reduceMod, Nat.reduceDiv, Nat.reduceBEq, Int.reduceLE, Int.reduceEq, Int.reduceLT, Int.reduceToNat, Int.reduceAdd, Int.reduceSub, Int.reduceNeg, reduceIte, reduceCtorEq, Int.reduceMul, decD] at hl
    have e : decStep ks j b = ubS (turnS (xorS b (ks.getD (10 - j) [])) 3) := by rw [decStep, if_neg h9]
    simp (maxSteps := 10000000) (disch := first | decide | omega | assumption | rfl | (simp only [List.length_set, List.length_append, List.length_take, List.length_drop, List.length_cons, List.length_nil]; omega)) only [go_sem, Nat.reduceAdd, Nat.reduceSub, Nat.reduceMul, Nat.reduceEqDiff, Nat.reduceLT, Nat.reduceLeDiff, Nat.reduceMod, Nat.reduceDiv, Nat.reduceBEq, Int.reduceLE, Int.reduceEq, Int.reduceLT, Int.reduceToNat, Int.reduceAdd, Int.reduceSub, Int.reduceNeg, reduceIte, reduceCtorEq, Int.reduceMul, l_aes_Decrypt_1, decC, e, a1, a2, a6, a9, hl, hb, hs, ht2, hm, hks, k1, l1, l2, l3, c1, c3, bytesV_at, keysV_at, keysV_set, keysV_length]
    all_goals rfl
def decS (key b : List UInt8) : List UInt8 := xorS (upTo (decStep (keysS key)) 10 b) ((keysS key).getD 0 [])
omit hD in
theorem dec_len (ks : List (List UInt8)) (b : List UInt8) (n : Nat) : (upTo (decStep ks) n b).length = b.length :=
  upTo_inv (fun (l : List UInt8) => l.length = b.length) rfl fun i _ l hl => by rw [decStep_len, hl]
omit hD in
theorem decS_length (key b : List UInt8) : (decS key b).length = b.length := by rw [decS, xorS_length, dec_len]
theorem dec_loop (n : Nat) (ks : List (List UInt8)) (b : List UInt8) (hb : b.length = 16) (hks : ks.length = 11) (hk : ∀ i, i < 11 → (ks.getD i []).length = 16) :
    fromHead (callN D (n + 3)) D.lend D.gl [6, 7, 8, 9] l_aes_Decrypt_1 (some (decC ks 10 b)) = some (.exit 0, ⟨envOf 60 [(6, .hp 0 0 0), (7, .hp 1 0 0), (8, .int .i64 0), (9, .int .i64 0), (22, .int .i64 0), (23, .bool false)], [(0, .row (bytesV (upTo (decStep ks) 10 b)) 1), (1, .row (keysV ks) 16)], 4, 0⟩) := by
  refine x_loop (fun j => decC ks (10 - j) (upTo (decStep ks) j b)) 10 (by simp) (by simp [loopFuel]) (fun j hj => ?_) ?_
  · have hr := dec_round D hD n ks j (upTo (decStep ks) j b) hj (by rw [dec_len, hb]) hks hk
    simp only [upTo_succ]
    rw [show 10 - (j + 1) = 9 - j by omega]
    exact hr
  · simp (maxSteps := 10000000) (disch := first | decide | omega | assumption | rfl | (simp only [List.length_set, List.length_append, List.length_take, List.length_drop, List.length_cons, List.length_nil]; omega)) only [go_sem, Nat.reduceAdd, Nat.reduceSub, Nat.reduceMul, Nat.reduceEqDiff, Nat.reduceLT, Nat.reduceLeDiff, Nat.reduceMod, Nat.reduceDiv, Nat.reduceBEq, Int.reduceLE, Int.reduceEq, Int.reduceLT, Int.reduceToNat, Int.reduceAdd, Int.reduceSub, Int.reduceNeg, reduceIte, reduceCtorEq, Int.reduceMul, l_aes_Decrypt_1, decC]
theorem c_aes_Decrypt (n : Nat) (key b : List UInt8) (hk : key.length = 16) (hb : b.length = 16) :
    callN D (n + 5) n_aes_Decrypt [.sl (bytesV key) 1, .sl (bytesV b) 1] [] = some (.tup [.hs 0 0 16, .int .i64 0], [(0, .row (bytesV (decS key b)) 1)]) := by
  have h1 := keysS_length key hk
  have hk1 := keysS_at key hk
  have h2 := all16 h1 hk1
  have h3 : (keysS key).flatten.length = 176 := by rw [flat_len (keysS key) h2, h1]
  have h4 := chunk_keysV (keysS key) h2
  rw [h1] at h4
  have h5 : List.take 11 (keysV (keysS key)) = keysV (keysS key) := List.take_of_length_le (by rw [keysV_length, h1]; omega)
  have k0 := hk1 0 (by omega)
  have l1 : D.lend n_aes_start = [true, true] := lend_of hD fn_aes_start
  have l2 : D.lend n_aes_block_xor = [false, true] := lend_of hD fn_aes_block_xor
  have hx : (upTo (decStep (keysS key)) 10 b).length = 16 := by rw [dec_len, hb]
  have e0 : ((0 : Int) != 0) = false := rfl
  have c1 := c_aes_start D hD n key b hk hb
  have c2 := c_aes_block_xor D hD (n + 3) (upTo (decStep (keysS key)) 10 b) ((keysS key).getD 0 []) hx k0
  rw [← decS] at c2
  have hl := dec_loop D hD (n + 1) (keysS key) b hb h1 hk1
  have he : (decS key b).length = 16 := by rw [decS_length, hb]
  simp (maxSteps := 10000000) (disch := first | decide | omega | assumption | rfl | (simp only [List.length_set, List.length_append, List.length_take, List.length_drop, List.length_cons, List.length_nil]; omega)) only [go_sem, Nat.reduceAdd, Nat.reduceSub, Nat.reduceMul, Nat.reduceEqDiff, Nat.reduceLT, Nat.reduceLeDiff, Nat.reduceMod, Nat.reduceDiv, Nat.reduceBEq, Int.reduceLE, Int.reduceEq, Int.reduceLT, Int.reduceToNat, Int.reduceAdd, Int.reduceSub, Int.reduceNeg, reduceIte, reduceCtorEq, Int.reduceMul, decC] at hl
  refine call_fn (hD _ _ fn_aes_Decrypt) (run_ret (s := ?ss) ?hh ?kk)
  case hh =>
    simp (maxSteps := 10000000) (disch := first | decide | omega | assumption | rfl | (simp only [List.length_set, List.length_append, List.length_take, List.length_drop, List.length_cons, List.length_nil]; omega)) only [go_sem, Nat.reduceAdd, Nat.reduceSub, Nat.reduceMul, Nat.reduceEqDiff, Nat.reduceLT, Nat.reduceLeDiff, Nat.reduceMod, Nat.reduceDiv, Nat.reduceBEq, Int.reduceLE, Int.reduceEq, Int.reduceLT, Int.reduceToNat, Int.reduceAdd, Int.reduceSub, Int.reduceNeg, reduceIte, reduceCtorEq, Int.reduceMul, d_aes_Decrypt, rep_keysV, hl, hk, hb, hx, he, k0, e0, l1, l2, c1, c2, keysV_at, keysV_set, keysV_length, cellsL_keysV, h1, h3, h4, h5]
    all_goals with_reducible rfl
  case kk =>
    simp (maxSteps := 10000000) (disch := first | decide | omega | assumption | rfl | (simp only [List.length_set, List.length_append, List.length_take, List.length_drop, List.length_cons, List.length_nil]; omega)) only [go_sem, Nat.reduceAdd, Nat.reduceSub, Nat.reduceMul, Nat.reduceEqDiff, Nat.reduceLT, Nat.reduceLeDiff, Nat.reduceMod, Nat.reduceDiv, Nat.reduceBEq, Int.reduceLE, Int.reduceEq, Int.reduceLT, Int.reduceToNat, Int.reduceAdd, Int.reduceSub, Int.reduceNeg, reduceIte, reduceCtorEq, Int.reduceMul, d_aes_Decrypt, he]
end Go.Dm.T
