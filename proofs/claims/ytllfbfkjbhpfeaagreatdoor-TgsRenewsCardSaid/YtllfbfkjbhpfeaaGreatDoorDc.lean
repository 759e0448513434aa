/- Machine words, loops and rules for contracts over the abstract machine. -/
import Derived.Test.YtllfbfkjbhpfeaaGreatDoorDb
set_option linter.unusedSimpArgs false
set_option linter.unusedVariables false
set_option linter.unusedSectionVars false
set_option linter.unusedSimpArgs false
set_option linter.unusedVariables false
namespace Go.Dm

/-! Numbers of a kind without sign, as machine words. -/
theorem wrap_of_lt {k : IntKind} (hk : k.signed = false) {n : Int} (h0 : 0 ≤ n) (h : n < 2 ^ k.bits) : k.wrap n = n := by
  simp only [IntKind.wrap, hk, Bool.false_and, Bool.false_eq_true, if_false]
  exact Int.emod_eq_of_lt h0 h
theorem wrap_u {k : IntKind} (hk : k.signed = false) (n : Int) : k.wrap n = ((BitVec.ofInt k.bits n).toNat : Int) := by
  simp only [IntKind.wrap, hk, Bool.false_and, Bool.false_eq_true, if_false, BitVec.toNat_ofInt]
  have : (0 : Int) < 2 ^ k.bits := Int.pow_pos (by omega)
  have h2 := Int.emod_nonneg n (by omega : (2 ^ k.bits : Int) ≠ 0)
  rw [Int.toNat_of_nonneg (by simpa using h2)]
  simp

section u8
variable (x y : UInt8) (n : Int)
theorem u8_ofInt_toNat : UInt8.ofInt (x.toNat : Int) = x := by
  apply UInt8.toNat_inj.1
  have := x.toNat_lt
  simp only [UInt8.ofInt, UInt8.toNat_ofNat']
  omega
theorem u8_bv : BitVec.ofInt 8 n = (UInt8.ofInt n).toBitVec := by
  apply BitVec.eq_of_toNat_eq
  simp only [BitVec.toNat_ofInt, UInt8.ofInt, UInt8.toNat_toBitVec, UInt8.toNat_ofNat']
  omega
theorem u8_bvn : BitVec.ofInt 8 (x.toNat : Int) = x.toBitVec := by rw [u8_bv, u8_ofInt_toNat]
theorem wrap8 : IntKind.u8.wrap n = ((UInt8.ofInt n).toNat : Int) := by
  rw [wrap_u rfl]; show ((BitVec.ofInt 8 n).toNat : Int) = _; rw [u8_bv]; rfl
theorem ofInt8_add (a b : Int) : UInt8.ofInt (a + b) = UInt8.ofInt a + UInt8.ofInt b := by
  apply UInt8.toBitVec_inj.1; rw [← u8_bv, UInt8.toBitVec_add, ← u8_bv, ← u8_bv, BitVec.ofInt_add]
theorem ofInt8_mul (a b : Int) : UInt8.ofInt (a * b) = UInt8.ofInt a * UInt8.ofInt b := by
  apply UInt8.toBitVec_inj.1; rw [← u8_bv, UInt8.toBitVec_mul, ← u8_bv, ← u8_bv, BitVec.ofInt_mul]
theorem ofInt8_sub (a b : Int) : UInt8.ofInt (a - b) = UInt8.ofInt a - UInt8.ofInt b := by
  apply UInt8.toBitVec_inj.1; rw [← u8_bv, UInt8.toBitVec_sub, ← u8_bv, ← u8_bv]
  rw [Int.sub_eq_add_neg, BitVec.ofInt_add, BitVec.ofInt_neg, BitVec.sub_eq_add_neg]
theorem bin8_add : binV .add (.int .u8 x.toNat) (.int .u8 n) = some (.int .u8 (x + UInt8.ofInt n).toNat) := by
  simp only [binV, isShift, binI, if_true, Bool.false_eq_true, if_false, wrap8, ofInt8_add, u8_ofInt_toNat]
theorem bin8_mul : binV .mul (.int .u8 x.toNat) (.int .u8 n) = some (.int .u8 (x * UInt8.ofInt n).toNat) := by
  simp only [binV, isShift, binI, if_true, Bool.false_eq_true, if_false, wrap8, ofInt8_mul, u8_ofInt_toNat]
theorem bin8_sub : binV .sub (.int .u8 x.toNat) (.int .u8 n) = some (.int .u8 (x - UInt8.ofInt n).toNat) := by
  simp only [binV, isShift, binI, if_true, Bool.false_eq_true, if_false, wrap8, ofInt8_sub, u8_ofInt_toNat]
theorem bits8 (op : BinOp) (a b : Int) : bitsV op .u8 a b = (UInt8.toNat (match op with | .and => UInt8.ofInt a &&& UInt8.ofInt b | .or => UInt8.ofInt a ||| UInt8.ofInt b | .xor => UInt8.ofInt a ^^^ UInt8.ofInt b | _ => UInt8.ofInt a &&& ~~~ UInt8.ofInt b) : Int) := by
  have h : ∀ v : BitVec 8, IntKind.u8.wrap (v.toNat : Int) = ((UInt8.ofBitVec v).toNat : Int) := fun v => by
    have := v.isLt
    rw [wrap_of_lt rfl (by omega) (by simp only [IntKind.bits]; omega)]; rfl
  unfold bitsV
  show IntKind.u8.wrap ((match op with | .and => BitVec.ofInt 8 a &&& BitVec.ofInt 8 b | .or => BitVec.ofInt 8 a ||| BitVec.ofInt 8 b | .xor => BitVec.ofInt 8 a ^^^ BitVec.ofInt 8 b | _ => BitVec.ofInt 8 a &&& ~~~ BitVec.ofInt 8 b : BitVec 8).toNat : Int) = _
  rw [h, u8_bv, u8_bv]
  cases op <;> rfl
theorem bin8_and : binV .and (.int .u8 x.toNat) (.int .u8 n) = some (.int .u8 (x &&& UInt8.ofInt n).toNat) := by
  simp only [binV, isShift, binI, if_true, Bool.false_eq_true, if_false, bits8, u8_ofInt_toNat]
theorem bin8_or : binV .or (.int .u8 x.toNat) (.int .u8 n) = some (.int .u8 (x ||| UInt8.ofInt n).toNat) := by
  simp only [binV, isShift, binI, if_true, Bool.false_eq_true, if_false, bits8, u8_ofInt_toNat]
theorem bin8_xor : binV .xor (.int .u8 x.toNat) (.int .u8 n) = some (.int .u8 (x ^^^ UInt8.ofInt n).toNat) := by
  simp only [binV, isShift, binI, if_true, Bool.false_eq_true, if_false, bits8, u8_ofInt_toNat]
theorem bin8_andNot : binV .andNot (.int .u8 x.toNat) (.int .u8 n) = some (.int .u8 (x &&& ~~~ UInt8.ofInt n).toNat) := by
  simp only [binV, isShift, binI, if_true, Bool.false_eq_true, if_false, bits8, u8_ofInt_toNat]
theorem u8_shl_toNat (c : Nat) (hc : c < 8) : (x <<< UInt8.ofNat c).toNat = (x.toNat * 2 ^ c) % 256 := by
  rw [UInt8.toNat_shiftLeft, UInt8.toNat_ofNat', Nat.shiftLeft_eq, Nat.mod_eq_of_lt (by omega : c < 2 ^ 8), Nat.mod_eq_of_lt hc]
theorem u8_shr_toNat (c : Nat) (hc : c < 8) : (x >>> UInt8.ofNat c).toNat = x.toNat / 2 ^ c := by
  rw [UInt8.toNat_shiftRight, UInt8.toNat_ofNat', Nat.shiftRight_eq_div_pow, Nat.mod_eq_of_lt (by omega : c < 2 ^ 8), Nat.mod_eq_of_lt hc]
theorem bin8_shl (k : IntKind) (h0 : 0 ≤ n) (h : n < 8) : binV .shl (.int .u8 x.toNat) (.int k n) = some (.int .u8 (x <<< UInt8.ofInt n).toNat) := by
  obtain ⟨c, rfl⟩ := Int.eq_ofNat_of_zero_le h0
  have hc : c < 8 := by omega
  have e : UInt8.ofInt (c : Int) = UInt8.ofNat c := by
    apply UInt8.toNat_inj.1; simp only [UInt8.ofInt, UInt8.toNat_ofNat']; omega
  simp only [binV, isShift, if_true, shiftV, h0, wrap8, e, IntKind.bits, Int.toNat_natCast, Nat.min_eq_left (Nat.le_of_lt hc)]
  congr 3
  rw [u8_shl_toNat x c hc]
  have : (x.toNat : Int) * 2 ^ c = ((x.toNat * 2 ^ c : Nat) : Int) := by push_cast; rfl
  rw [this]
  simp only [UInt8.ofInt, UInt8.toNat_ofNat']
  omega
theorem bin8_shr (k : IntKind) (h0 : 0 ≤ n) (h : n < 8) : binV .shr (.int .u8 x.toNat) (.int k n) = some (.int .u8 (x >>> UInt8.ofInt n).toNat) := by
  obtain ⟨c, rfl⟩ := Int.eq_ofNat_of_zero_le h0
  have hc : c < 8 := by omega
  have e : UInt8.ofInt (c : Int) = UInt8.ofNat c := by
    apply UInt8.toNat_inj.1; simp only [UInt8.ofInt, UInt8.toNat_ofNat']; omega
  simp only [binV, isShift, if_true, shiftV, h0, e, IntKind.bits, Int.toNat_natCast, Nat.min_eq_left (Nat.le_of_lt hc), u8_shr_toNat x c hc, Int.natCast_ediv, Int.natCast_pow]
  rfl
theorem bin8_eql : binV .eql (.int .u8 x.toNat) (.int .u8 y.toNat) = some (.bool (x == y)) := by
  simp only [binV, isShift, binI, if_true, Bool.false_eq_true, if_false, Option.some.injEq, V.bool.injEq]
  by_cases h : x = y
  · subst h; simp
  · have : ¬ (x.toNat : Int) = y.toNat := fun e => h (UInt8.toNat_inj.1 (by omega))
    rw [beq_eq_false_iff_ne.2 this, beq_eq_false_iff_ne.2 h]
theorem bin8_neq : binV .neq (.int .u8 x.toNat) (.int .u8 y.toNat) = some (.bool (x != y)) := by
  have := bin8_eql x y
  simp only [binV, isShift, binI, if_true, Bool.false_eq_true, if_false, Option.some.injEq, V.bool.injEq] at this ⊢
  show (!((x.toNat : Int) == (y.toNat : Int))) = !(x == y)
  rw [this]
end u8
section u32
variable (x y : UInt32) (n : Int)
theorem u32_ofInt_toNat : UInt32.ofInt (x.toNat : Int) = x := by
  apply UInt32.toNat_inj.1
  have := x.toNat_lt
  simp only [UInt32.ofInt, UInt32.toNat_ofNat']
  omega
theorem u32_bv : BitVec.ofInt 32 n = (UInt32.ofInt n).toBitVec := by
  apply BitVec.eq_of_toNat_eq
  simp only [BitVec.toNat_ofInt, UInt32.ofInt, UInt32.toNat_toBitVec, UInt32.toNat_ofNat']
  omega
theorem u32_bvn : BitVec.ofInt 32 (x.toNat : Int) = x.toBitVec := by rw [u32_bv, u32_ofInt_toNat]
theorem wrap32 : IntKind.u32.wrap n = ((UInt32.ofInt n).toNat : Int) := by
  rw [wrap_u rfl]; show ((BitVec.ofInt 32 n).toNat : Int) = _; rw [u32_bv]; rfl
theorem ofInt32_add (a b : Int) : UInt32.ofInt (a + b) = UInt32.ofInt a + UInt32.ofInt b := by
  apply UInt32.toBitVec_inj.1; rw [← u32_bv, UInt32.toBitVec_add, ← u32_bv, ← u32_bv, BitVec.ofInt_add]
theorem ofInt32_mul (a b : Int) : UInt32.ofInt (a * b) = UInt32.ofInt a * UInt32.ofInt b := by
  apply UInt32.toBitVec_inj.1; rw [← u32_bv, UInt32.toBitVec_mul, ← u32_bv, ← u32_bv, BitVec.ofInt_mul]
theorem ofInt32_sub (a b : Int) : UInt32.ofInt (a - b) = UInt32.ofInt a - UInt32.ofInt b := by
  apply UInt32.toBitVec_inj.1; rw [← u32_bv, UInt32.toBitVec_sub, ← u32_bv, ← u32_bv]
  rw [Int.sub_eq_add_neg, BitVec.ofInt_add, BitVec.ofInt_neg, BitVec.sub_eq_add_neg]
theorem bin32_add : binV .add (.int .u32 x.toNat) (.int .u32 n) = some (.int .u32 (x + UInt32.ofInt n).toNat) := by
  simp only [binV, isShift, binI, if_true, Bool.false_eq_true, if_false, wrap32, ofInt32_add, u32_ofInt_toNat]
theorem bin32_mul : binV .mul (.int .u32 x.toNat) (.int .u32 n) = some (.int .u32 (x * UInt32.ofInt n).toNat) := by
  simp only [binV, isShift, binI, if_true, Bool.false_eq_true, if_false, wrap32, ofInt32_mul, u32_ofInt_toNat]
theorem bin32_sub : binV .sub (.int .u32 x.toNat) (.int .u32 n) = some (.int .u32 (x - UInt32.ofInt n).toNat) := by
  simp only [binV, isShift, binI, if_true, Bool.false_eq_true, if_false, wrap32, ofInt32_sub, u32_ofInt_toNat]
theorem bits32 (op : BinOp) (a b : Int) : bitsV op .u32 a b = (UInt32.toNat (match op with | .and => UInt32.ofInt a &&& UInt32.ofInt b | .or => UInt32.ofInt a ||| UInt32.ofInt b | .xor => UInt32.ofInt a ^^^ UInt32.ofInt b | _ => UInt32.ofInt a &&& ~~~ UInt32.ofInt b) : Int) := by
  have h : ∀ v : BitVec 32, IntKind.u32.wrap (v.toNat : Int) = ((UInt32.ofBitVec v).toNat : Int) := fun v => by
    have := v.isLt
    rw [wrap_of_lt rfl (by omega) (by simp only [IntKind.bits]; omega)]; rfl
  unfold bitsV
  show IntKind.u32.wrap ((match op with | .and => BitVec.ofInt 32 a &&& BitVec.ofInt 32 b | .or => BitVec.ofInt 32 a ||| BitVec.ofInt 32 b | .xor => BitVec.ofInt 32 a ^^^ BitVec.ofInt 32 b | _ => BitVec.ofInt 32 a &&& ~~~ BitVec.ofInt 32 b : BitVec 32).toNat : Int) = _
  rw [h, u32_bv, u32_bv]
  cases op <;> rfl
theorem bin32_and : binV .and (.int .u32 x.toNat) (.int .u32 n) = some (.int .u32 (x &&& UInt32.ofInt n).toNat) := by
  simp only [binV, isShift, binI, if_true, Bool.false_eq_true, if_false, bits32, u32_ofInt_toNat]
theorem bin32_or : binV .or (.int .u32 x.toNat) (.int .u32 n) = some (.int .u32 (x ||| UInt32.ofInt n).toNat) := by
  simp only [binV, isShift, binI, if_true, Bool.false_eq_true, if_false, bits32, u32_ofInt_toNat]
theorem bin32_xor : binV .xor (.int .u32 x.toNat) (.int .u32 n) = some (.int .u32 (x ^^^ UInt32.ofInt n).toNat) := by
  simp only [binV, isShift, binI, if_true, Bool.false_eq_true, if_false, bits32, u32_ofInt_toNat]
theorem bin32_andNot : binV .andNot (.int .u32 x.toNat) (.int .u32 n) = some (.int .u32 (x &&& ~~~ UInt32.ofInt n).toNat) := by
  simp only [binV, isShift, binI, if_true, Bool.false_eq_true, if_false, bits32, u32_ofInt_toNat]
theorem u32_shl_toNat (c : Nat) (hc : c < 32) : (x <<< UInt32.ofNat c).toNat = (x.toNat * 2 ^ c) % 4294967296 := by
  rw [UInt32.toNat_shiftLeft, UInt32.toNat_ofNat', Nat.shiftLeft_eq, Nat.mod_eq_of_lt (by omega : c < 2 ^ 32), Nat.mod_eq_of_lt hc]
theorem u32_shr_toNat (c : Nat) (hc : c < 32) : (x >>> UInt32.ofNat c).toNat = x.toNat / 2 ^ c := by
  rw [UInt32.toNat_shiftRight, UInt32.toNat_ofNat', Nat.shiftRight_eq_div_pow, Nat.mod_eq_of_lt (by omega : c < 2 ^ 32), Nat.mod_eq_of_lt hc]
theorem bin32_shl (k : IntKind) (h0 : 0 ≤ n) (h : n < 32) : binV .shl (.int .u32 x.toNat) (.int k n) = some (.int .u32 (x <<< UInt32.ofInt n).toNat) := by
  obtain ⟨c, rfl⟩ := Int.eq_ofNat_of_zero_le h0
  have hc : c < 32 := by omega
  have e : UInt32.ofInt (c : Int) = UInt32.ofNat c := by
    apply UInt32.toNat_inj.1; simp only [UInt32.ofInt, UInt32.toNat_ofNat']; omega
  simp only [binV, isShift, if_true, shiftV, h0, wrap32, e, IntKind.bits, Int.toNat_natCast, Nat.min_eq_left (Nat.le_of_lt hc)]
  congr 3
  rw [u32_shl_toNat x c hc]
  have : (x.toNat : Int) * 2 ^ c = ((x.toNat * 2 ^ c : Nat) : Int) := by push_cast; rfl
  rw [this]
  simp only [UInt32.ofInt, UInt32.toNat_ofNat']
  omega
theorem bin32_shr (k : IntKind) (h0 : 0 ≤ n) (h : n < 32) : binV .shr (.int .u32 x.toNat) (.int k n) = some (.int .u32 (x >>> UInt32.ofInt n).toNat) := by
  obtain ⟨c, rfl⟩ := Int.eq_ofNat_of_zero_le h0
  have hc : c < 32 := by omega
  have e : UInt32.ofInt (c : Int) = UInt32.ofNat c := by
    apply UInt32.toNat_inj.1; simp only [UInt32.ofInt, UInt32.toNat_ofNat']; omega
  simp only [binV, isShift, if_true, shiftV, h0, e, IntKind.bits, Int.toNat_natCast, Nat.min_eq_left (Nat.le_of_lt hc), u32_shr_toNat x c hc, Int.natCast_ediv, Int.natCast_pow]
  rfl
theorem bin32_eql : binV .eql (.int .u32 x.toNat) (.int .u32 y.toNat) = some (.bool (x == y)) := by
  simp only [binV, isShift, binI, if_true, Bool.false_eq_true, if_false, Option.some.injEq, V.bool.injEq]
  by_cases h : x = y
  · subst h; simp
  · have : ¬ (x.toNat : Int) = y.toNat := fun e => h (UInt32.toNat_inj.1 (by omega))
    rw [beq_eq_false_iff_ne.2 this, beq_eq_false_iff_ne.2 h]
theorem bin32_neq : binV .neq (.int .u32 x.toNat) (.int .u32 y.toNat) = some (.bool (x != y)) := by
  have := bin32_eql x y
  simp only [binV, isShift, binI, if_true, Bool.false_eq_true, if_false, Option.some.injEq, V.bool.injEq] at this ⊢
  show (!((x.toNat : Int) == (y.toNat : Int))) = !(x == y)
  rw [this]
end u32
section u64
variable (x y : UInt64) (n : Int)
theorem u64_ofInt_toNat : UInt64.ofInt (x.toNat : Int) = x := by
  apply UInt64.toNat_inj.1
  have := x.toNat_lt
  simp only [UInt64.ofInt, UInt64.toNat_ofNat']
  omega
theorem u64_bv : BitVec.ofInt 64 n = (UInt64.ofInt n).toBitVec := by
  apply BitVec.eq_of_toNat_eq
  simp only [BitVec.toNat_ofInt, UInt64.ofInt, UInt64.toNat_toBitVec, UInt64.toNat_ofNat']
  omega
theorem u64_bvn : BitVec.ofInt 64 (x.toNat : Int) = x.toBitVec := by rw [u64_bv, u64_ofInt_toNat]
theorem wrap64 : IntKind.u64.wrap n = ((UInt64.ofInt n).toNat : Int) := by
  rw [wrap_u rfl]; show ((BitVec.ofInt 64 n).toNat : Int) = _; rw [u64_bv]; rfl
theorem ofInt64_add (a b : Int) : UInt64.ofInt (a + b) = UInt64.ofInt a + UInt64.ofInt b := by
  apply UInt64.toBitVec_inj.1; rw [← u64_bv, UInt64.toBitVec_add, ← u64_bv, ← u64_bv, BitVec.ofInt_add]
theorem ofInt64_mul (a b : Int) : UInt64.ofInt (a * b) = UInt64.ofInt a * UInt64.ofInt b := by
  apply UInt64.toBitVec_inj.1; rw [← u64_bv, UInt64.toBitVec_mul, ← u64_bv, ← u64_bv, BitVec.ofInt_mul]
theorem ofInt64_sub (a b : Int) : UInt64.ofInt (a - b) = UInt64.ofInt a - UInt64.ofInt b := by
  apply UInt64.toBitVec_inj.1; rw [← u64_bv, UInt64.toBitVec_sub, ← u64_bv, ← u64_bv]
  rw [Int.sub_eq_add_neg, BitVec.ofInt_add, BitVec.ofInt_neg, BitVec.sub_eq_add_neg]
theorem bin64_add : binV .add (.int .u64 x.toNat) (.int .u64 n) = some (.int .u64 (x + UInt64.ofInt n).toNat) := by
  simp only [binV, isShift, binI, if_true, Bool.false_eq_true, if_false, wrap64, ofInt64_add, u64_ofInt_toNat]
theorem bin64_mul : binV .mul (.int .u64 x.toNat) (.int .u64 n) = some (.int .u64 (x * UInt64.ofInt n).toNat) := by
  simp only [binV, isShift, binI, if_true, Bool.false_eq_true, if_false, wrap64, ofInt64_mul, u64_ofInt_toNat]
theorem bin64_sub : binV .sub (.int .u64 x.toNat) (.int .u64 n) = some (.int .u64 (x - UInt64.ofInt n).toNat) := by
  simp only [binV, isShift, binI, if_true, Bool.false_eq_true, if_false, wrap64, ofInt64_sub, u64_ofInt_toNat]
theorem bits64 (op : BinOp) (a b : Int) : bitsV op .u64 a b = (UInt64.toNat (match op with | .and => UInt64.ofInt a &&& UInt64.ofInt b | .or => UInt64.ofInt a ||| UInt64.ofInt b | .xor => UInt64.ofInt a ^^^ UInt64.ofInt b | _ => UInt64.ofInt a &&& ~~~ UInt64.ofInt b) : Int) := by
  have h : ∀ v : BitVec 64, IntKind.u64.wrap (v.toNat : Int) = ((UInt64.ofBitVec v).toNat : Int) := fun v => by
    have := v.isLt
    rw [wrap_of_lt rfl (by omega) (by simp only [IntKind.bits]; omega)]; rfl
  unfold bitsV
  show IntKind.u64.wrap ((match op with | .and => BitVec.ofInt 64 a &&& BitVec.ofInt 64 b | .or => BitVec.ofInt 64 a ||| BitVec.ofInt 64 b | .xor => BitVec.ofInt 64 a ^^^ BitVec.ofInt 64 b | _ => BitVec.ofInt 64 a &&& ~~~ BitVec.ofInt 64 b : BitVec 64).toNat : Int) = _
  rw [h, u64_bv, u64_bv]
  cases op <;> rfl
theorem bin64_and : binV .and (.int .u64 x.toNat) (.int .u64 n) = some (.int .u64 (x &&& UInt64.ofInt n).toNat) := by
  simp only [binV, isShift, binI, if_true, Bool.false_eq_true, if_false, bits64, u64_ofInt_toNat]
theorem bin64_or : binV .or (.int .u64 x.toNat) (.int .u64 n) = some (.int .u64 (x ||| UInt64.ofInt n).toNat) := by
  simp only [binV, isShift, binI, if_true, Bool.false_eq_true, if_false, bits64, u64_ofInt_toNat]
theorem bin64_xor : binV .xor (.int .u64 x.toNat) (.int .u64 n) = some (.int .u64 (x ^^^ UInt64.ofInt n).toNat) := by
  simp only [binV, isShift, binI, if_true, Bool.false_eq_true, if_false, bits64, u64_ofInt_toNat]
theorem bin64_andNot : binV .andNot (.int .u64 x.toNat) (.int .u64 n) = some (.int .u64 (x &&& ~~~ UInt64.ofInt n).toNat) := by
  simp only [binV, isShift, binI, if_true, Bool.false_eq_true, if_false, bits64, u64_ofInt_toNat]
theorem u64_shl_toNat (c : Nat) (hc : c < 64) : (x <<< UInt64.ofNat c).toNat = (x.toNat * 2 ^ c) % 18446744073709551616 := by
  rw [UInt64.toNat_shiftLeft, UInt64.toNat_ofNat', Nat.shiftLeft_eq, Nat.mod_eq_of_lt (by omega : c < 2 ^ 64), Nat.mod_eq_of_lt hc]
theorem u64_shr_toNat (c : Nat) (hc : c < 64) : (x >>> UInt64.ofNat c).toNat = x.toNat / 2 ^ c := by
  rw [UInt64.toNat_shiftRight, UInt64.toNat_ofNat', Nat.shiftRight_eq_div_pow, Nat.mod_eq_of_lt (by omega : c < 2 ^ 64), Nat.mod_eq_of_lt hc]
theorem bin64_shl (k : IntKind) (h0 : 0 ≤ n) (h : n < 64) : binV .shl (.int .u64 x.toNat) (.int k n) = some (.int .u64 (x <<< UInt64.ofInt n).toNat) := by
  obtain ⟨c, rfl⟩ := Int.eq_ofNat_of_zero_le h0
  have hc : c < 64 := by omega
  have e : UInt64.ofInt (c : Int) = UInt64.ofNat c := by
    apply UInt64.toNat_inj.1; simp only [UInt64.ofInt, UInt64.toNat_ofNat']; omega
  simp only [binV, isShift, if_true, shiftV, h0, wrap64, e, IntKind.bits, Int.toNat_natCast, Nat.min_eq_left (Nat.le_of_lt hc)]
  congr 3
  rw [u64_shl_toNat x c hc]
  have : (x.toNat : Int) * 2 ^ c = ((x.toNat * 2 ^ c : Nat) : Int) := by push_cast; rfl
  rw [this]
  simp only [UInt64.ofInt, UInt64.toNat_ofNat']
  omega
theorem bin64_shr (k : IntKind) (h0 : 0 ≤ n) (h : n < 64) : binV .shr (.int .u64 x.toNat) (.int k n) = some (.int .u64 (x >>> UInt64.ofInt n).toNat) := by
  obtain ⟨c, rfl⟩ := Int.eq_ofNat_of_zero_le h0
  have hc : c < 64 := by omega
  have e : UInt64.ofInt (c : Int) = UInt64.ofNat c := by
    apply UInt64.toNat_inj.1; simp only [UInt64.ofInt, UInt64.toNat_ofNat']; omega
  simp only [binV, isShift, if_true, shiftV, h0, e, IntKind.bits, Int.toNat_natCast, Nat.min_eq_left (Nat.le_of_lt hc), u64_shr_toNat x c hc, Int.natCast_ediv, Int.natCast_pow]
  rfl
theorem bin64_eql : binV .eql (.int .u64 x.toNat) (.int .u64 y.toNat) = some (.bool (x == y)) := by
  simp only [binV, isShift, binI, if_true, Bool.false_eq_true, if_false, Option.some.injEq, V.bool.injEq]
  by_cases h : x = y
  · subst h; simp
  · have : ¬ (x.toNat : Int) = y.toNat := fun e => h (UInt64.toNat_inj.1 (by omega))
    rw [beq_eq_false_iff_ne.2 this, beq_eq_false_iff_ne.2 h]
theorem bin64_neq : binV .neq (.int .u64 x.toNat) (.int .u64 y.toNat) = some (.bool (x != y)) := by
  have := bin64_eql x y
  simp only [binV, isShift, binI, if_true, Bool.false_eq_true, if_false, Option.some.injEq, V.bool.injEq] at this ⊢
  show (!((x.toNat : Int) == (y.toNat : Int))) = !(x == y)
  rw [this]
end u64
theorem un8_not (x : UInt8) : unV .xor (.int .u8 x.toNat) = some (.int .u8 (~~~ x).toNat) := by
  simp only [unV, IntKind.signed, Bool.false_eq_true, if_false, bits8, u8_ofInt_toNat]
  have e : UInt8.ofInt IntKind.u8.max = -1 := by decide
  rw [e]
  congr 3
theorem un32_not (x : UInt32) : unV .xor (.int .u32 x.toNat) = some (.int .u32 (~~~ x).toNat) := by
  simp only [unV, IntKind.signed, Bool.false_eq_true, if_false, bits32, u32_ofInt_toNat]
  have e : UInt32.ofInt IntKind.u32.max = -1 := by decide
  rw [e]
  congr 3
theorem un64_not (x : UInt64) : unV .xor (.int .u64 x.toNat) = some (.int .u64 (~~~ x).toNat) := by
  simp only [unV, IntKind.signed, Bool.false_eq_true, if_false, bits64, u64_ofInt_toNat]
  have e : UInt64.ofInt IntKind.u64.max = -1 := by decide
  rw [e]
  congr 3
end Go.Dm
set_option linter.unusedSimpArgs false
set_option linter.unusedVariables false
namespace Go.Dm

/-! Whole numbers with sign: what stays in range. -/
theorem wrapi {n : Int} (h0 : -9223372036854775808 ≤ n) (h : n < 9223372036854775808) : IntKind.i64.wrap n = n := by
  have e : IntKind.i64.wrap n = if (true && decide (n % 18446744073709551616 ≥ 9223372036854775808)) = true then n % 18446744073709551616 - 18446744073709551616 else n % 18446744073709551616 := rfl
  rw [e]
  simp only [Bool.true_and, decide_eq_true_eq]
  split <;> omega
theorem wrapi8 (x : UInt8) : IntKind.i64.wrap (x.toNat : Int) = x.toNat := wrapi (by omega) (by have := x.toNat_lt; omega)
theorem wrapi32 (x : UInt32) : IntKind.i64.wrap (x.toNat : Int) = x.toNat := wrapi (by omega) (by have := x.toNat_lt; omega)

/-- While. -/
def goW {α : Type} (cond : α → Bool) (step : α → α) : Nat → α → α
  | 0, a => a
  | n + 1, a => if cond a then goW cond step n (step a) else a

/-! Steps. -/
section
variable {cs : CallSem} {lend : Nat → List Bool} {gl : Nat → Option (List V)}

theorem x_seq {a b : DCode} {s s' : St} {r : Option (Ex × St)} (h : exec cs lend gl a s = some (.nrm, s')) (k : exec cs lend gl b s' = r) : exec cs lend gl (.seq a b) s = r := by
  simp only [exec, h]; exact k
theorem x_seqx {a b : DCode} {s s' : St} {e : Ex} (h : exec cs lend gl a s = some (e, s')) (he : e ≠ .nrm) : exec cs lend gl (.seq a b) s = some (e, s') := by
  simp only [exec, h]
  cases e with
  | nrm => exact absurd rfl he
  | exit _ => rfl
  | ret => rfl
theorem x_block {id : Nat} {c : DCode} {s s' : St} (h : exec cs lend gl c s = some (.exit id, s')) : exec cs lend gl (.block id c) s = some (.nrm, s') := by
  simp only [exec, h, if_true]
theorem x_blockn {id : Nat} {c : DCode} {s s' : St} (h : exec cs lend gl c s = some (.nrm, s')) : exec cs lend gl (.block id c) s = some (.nrm, s') := by
  simp only [exec, h]
theorem x_blockr {id : Nat} {c : DCode} {s s' : St} (h : exec cs lend gl c s = some (.ret, s')) : exec cs lend gl (.block id c) s = some (.ret, s') := by
  simp only [exec, h]
theorem x_blocke {id i : Nat} {c : DCode} {s s' : St} (h : exec cs lend gl c s = some (.exit i, s')) (hi : i ≠ id) : exec cs lend gl (.block id c) s = some (.exit i, s') := by
  simp only [exec, h, if_neg hi]
theorem x_condt {x : X} {a b : DCode} {s : St} {r : Option (Ex × St)} (h : evL s.env x = .bool true) (k : exec cs lend gl a s = r) : exec cs lend gl (.cond x a b) s = r := by
  simp only [exec, h]; exact k
theorem x_condf {x : X} {a b : DCode} {s : St} {r : Option (Ex × St)} (h : evL s.env x = .bool false) (k : exec cs lend gl b s = r) : exec cs lend gl (.cond x a b) s = r := by
  simp only [exec, h]; exact k
theorem x_ret {s : St} : exec cs lend gl .ret s = some (.ret, s) := rfl
theorem x_skip {s : St} : exec cs lend gl .skip s = some (.nrm, s) := rfl
theorem x_exit {id : Nat} {s : St} : exec cs lend gl (.exit id) s = some (.exit id, s) := rfl

/-- One round of a loop. -/
def round (f : St → Option (Ex × St)) (h : St → Option St) (s : St) : Option St :=
  match f s with
  | some (.nrm, s') => h s'
  | _ => none

theorem loopN_up {f : St → Option (Ex × St)} {h : St → Option St} (C : Nat → St) {e : Ex} {s' : St} (he : e ≠ .nrm) : ∀ (n i N : Nat), n < N →
    (∀ j, j < n → round f h (C (i + j)) = some (C (i + j + 1))) → f (C (i + n)) = some (e, s') → ∀ s0, h s0 = some (C i) → loopN f h N s0 = some (e, s')
  | 0, i, N, hN, hs, hx, s0, h0 => by
    obtain ⟨N, rfl⟩ := Nat.exists_eq_succ_of_ne_zero (by omega : N ≠ 0)
    simp only [loopN, h0]
    rw [Nat.add_zero] at hx
    rw [hx]
    cases e with
    | nrm => exact absurd rfl he
    | exit _ => rfl
    | ret => rfl
  | n + 1, i, N, hN, hs, hx, s0, h0 => by
    obtain ⟨N, rfl⟩ := Nat.exists_eq_succ_of_ne_zero (by omega : N ≠ 0)
    simp only [loopN, h0]
    have h1 := hs 0 (by omega)
    rw [Nat.add_zero] at h1
    unfold round at h1
    split at h1
    · rename_i s2 h2
      rw [h2]
      refine loopN_up C he n (i + 1) N (by omega) (fun j hj => ?_) ?_ s2 h1
      · have := hs (j + 1) (by omega)
        rw [show i + (j + 1) = i + 1 + j by omega] at this
        exact this
      · rw [show i + (n + 1) = i + 1 + n by omega] at hx; exact hx
    · cases h1

theorem loopN_succ (f : St → Option (Ex × St)) (h : St → Option St) (n : Nat) (s : St) : loopN f h (n + 1) s = (match h s with
    | none => none
    | some s' => match f s' with
      | some (.nrm, s2) => loopN f h n s2
      | r => r) := rfl
/-- A loop from its head on. -/
def fromHead (cs : CallSem) (lend : Nat → List Bool) (gl : Nat → Option (List V)) (live : List Nat) (c : DCode) : Option St → Option (Ex × St)
  | none => none
  | some s => match exec cs lend gl c s with
    | some (.nrm, s2) => loopN (exec cs lend gl c) (canon live) 18446744073709551615 s2
    | r => r
theorem exec_loop {live : List Nat} {c : DCode} {s : St} : exec cs lend gl (.loop live c) s = fromHead cs lend gl live c (canon live s) := by
  have e : exec cs lend gl (.loop live c) s = loopN (exec cs lend gl c) (canon live) (18446744073709551615 + 1) s := rfl
  rw [e, loopN_succ]
  unfold fromHead
  cases canon live s with
  | none => rfl
  | some s' => rfl
theorem fromHead_eq {live : List Nat} {c : DCode} {s0 s : St} (h : canon live s0 = some s) : fromHead cs lend gl live c (some s) = loopN (exec cs lend gl c) (canon live) loopFuel s0 := by
  have := exec_loop (cs := cs) (lend := lend) (gl := gl) (live := live) (c := c) (s := s0)
  rw [h] at this
  rw [← this]
  rfl

/-- A loop that counts from nought: n rounds, and the way out. -/
theorem loopN_head {f : St → Option (Ex × St)} {h : St → Option St} {N : Nat} {s0 s1 s : St} (h0 : h s0 = some s) (h1 : h s1 = some s) : loopN f h N s0 = loopN f h N s1 := by
  cases N with
  | zero => rfl
  | succ N => simp only [loopN, h0, h1]
theorem x_loop {live : List Nat} {c : DCode} {s' : St} {e : Ex} (C : Nat → St) (n : Nat) (he : e ≠ .nrm) (hn : n < loopFuel)
    (hs : ∀ i, i < n → round (exec cs lend gl c) (canon live) (C i) = some (C (i + 1))) (hx : exec cs lend gl c (C n) = some (e, s')) : fromHead cs lend gl live c (some (C 0)) = some (e, s') := by
  cases n with
  | zero =>
    simp only [fromHead, hx]
    cases e with
    | nrm => exact absurd rfl he
    | exit _ => rfl
    | ret => rfl
  | succ n =>
    have h0 := hs 0 (by omega)
    unfold round at h0
    split at h0
    · rename_i s2 h2
      simp only [fromHead, h2]
      refine loopN_up C he n 1 18446744073709551615 (by simp only [loopFuel] at hn; omega) (fun j hj => ?_) ?_ s2 h0
      · have := hs (j + 1) (by omega)
        rw [show 1 + j = j + 1 by omega]
        exact this
      · rw [show 1 + n = n + 1 by omega]; exact hx
    · cases h0

/-- A loop that goes on while a condition holds. -/
theorem loopN_go {α : Type} {f : St → Option (Ex × St)} {h : St → Option St} (C : α → St) (cond : α → Bool) (step : α → α) (x : α → Ex × St) (Inv : α → Prop) (μ : α → Nat)
    (hs : ∀ a, Inv a → cond a = true → Inv (step a) ∧ μ (step a) < μ a ∧ round f h (C a) = some (C (step a)))
    (hx : ∀ a, Inv a → cond a = false → f (C a) = some (x a) ∧ (x a).1 ≠ .nrm) :
    ∀ (n N : Nat) (a : α), Inv a → μ a < N → μ a ≤ n → ∀ s0, h s0 = some (C a) → loopN f h N s0 = some (x (goW cond step n a)) ∧ Inv (goW cond step n a) ∧ cond (goW cond step n a) = false
  | n, 0, a, _, hN, _, s0, h0 => by omega
  | n, N + 1, a, ha, hN, hn, s0, h0 => by
    simp only [loopN, h0]
    cases hc : cond a with
    | false =>
      obtain ⟨h1, h2⟩ := hx a ha hc
      have e : goW cond step n a = a := by cases n <;> simp [goW, hc]
      rw [h1, e]
      refine ⟨?_, ha, hc⟩
      generalize x a = p at *
      obtain ⟨e, s'⟩ := p
      cases e with
      | nrm => exact absurd rfl h2
      | exit _ => rfl
      | ret => rfl
    | true =>
      obtain ⟨h1, h2, h3⟩ := hs a ha hc
      obtain ⟨n, rfl⟩ := Nat.exists_eq_succ_of_ne_zero (by omega : n ≠ 0)
      unfold round at h3
      split at h3
      · rename_i s2 h4
        have e : goW cond step (n + 1) a = goW cond step n (step a) := by simp [goW, hc]
        rw [h4, Nat.succ_eq_add_one, e]
        exact loopN_go C cond step x Inv μ hs hx n N (step a) h1 (by omega) (by omega) s2 h3
      · cases h3

theorem x_while {α : Type} {live : List Nat} {c : DCode} (C : α → St) (cond : α → Bool) (step : α → α) (x : α → Ex × St) (Inv : α → Prop) (μ : α → Nat) (n : Nat) (a0 : α)
    (hI : Inv a0) (hf : μ a0 < loopFuel) (hn : μ a0 ≤ n)
    (hs : ∀ a, Inv a → cond a = true → Inv (step a) ∧ μ (step a) < μ a ∧ round (exec cs lend gl c) (canon live) (C a) = some (C (step a)))
    (hx : ∀ a, Inv a → cond a = false → exec cs lend gl c (C a) = some (x a) ∧ (x a).1 ≠ .nrm) :
    fromHead cs lend gl live c (some (C a0)) = some (x (goW cond step n a0)) ∧ Inv (goW cond step n a0) ∧ cond (goW cond step n a0) = false := by
  cases hc : cond a0 with
  | false =>
    have e : goW cond step n a0 = a0 := by cases n <;> simp [goW, hc]
    obtain ⟨h1, h2⟩ := hx a0 hI hc
    rw [e]
    refine ⟨?_, hI, hc⟩
    simp only [fromHead, h1]
    generalize x a0 = p at *
    obtain ⟨e, s'⟩ := p
    cases e with
    | nrm => exact absurd rfl h2
    | exit _ => rfl
    | ret => rfl
  | true =>
    obtain ⟨h1, h2, h3⟩ := hs a0 hI hc
    obtain ⟨n, rfl⟩ := Nat.exists_eq_succ_of_ne_zero (by omega : n ≠ 0)
    have e : goW cond step (n + 1) a0 = goW cond step n (step a0) := by simp [goW, hc]
    unfold round at h3
    split at h3
    · rename_i s2 h4
      rw [Nat.succ_eq_add_one, e]
      simp only [fromHead, h4]
      simp only [loopFuel] at hf
      exact loopN_go C cond step x Inv μ hs hx n 18446744073709551615 (step a0) h1 (by omega) (by omega) s2 h3
    · cases h3
end

/-- Steps 0 .. n-1. -/
def upTo {α : Type} (f : Nat → α → α) : Nat → α → α
  | 0, s => s
  | n + 1, s => f n (upTo f n s)
theorem upTo_succ {α : Type} (f : Nat → α → α) (n : Nat) (s : α) : upTo f (n + 1) s = f n (upTo f n s) := rfl
theorem upTo_inv {α : Type} (p : α → Prop) {f : Nat → α → α} {n : Nat} {s : α} (h0 : p s) (h : ∀ i, i < n → ∀ a, p a → p (f i a)) : p (upTo f n s) := by
  induction n with
  | zero => exact h0
  | succ n ih => exact h n (by omega) _ (ih fun i hi => h i (by omega))

/-! A call. -/
def tups : Nat → List V
  | 0 => []
  | n + 1 => .tup [] :: tups n
def undefs : Nat → List V
  | 0 => []
  | n + 1 => .undef :: undefs n
theorem tups_eq : ∀ n, tups n = List.replicate n (.tup [])
  | 0 => rfl
  | n + 1 => by rw [tups, tups_eq n, List.replicate_succ]
theorem undefs_eq : ∀ n, undefs n = List.replicate n .undef
  | 0 => rfl
  | n + 1 => by rw [undefs, undefs_eq n, List.replicate_succ]
theorem call_fn {D : DProg} {n f : Nat} {F : DFun} {args : List V} {os : Objs} {r : Option (V × Objs)} (hF : D.fn f = some F) (h : runF (callN D n) D.lend D.gl F args os = r) : callN D (n + 1) f args os = r := by
  simp only [callN, hF]; exact h
theorem run_ret {cs : CallSem} {lend : Nat → List Bool} {gl : Nat → Option (List V)} {F : DFun} {args : List V} {os : Objs} {s : St} {r : Option (V × Objs)}
    (h : exec cs lend gl F.body ⟨args ++ tups (F.ntmps - args.length), os, os.length, os.length⟩ = some (.ret, s))
    (k : ((resV s F.results).bind fun vs => packR s.objs os.length (one1 vs)) = r) : runF cs lend gl F args os = r := by
  rw [tups_eq] at h; simp only [runF, h]; exact k
theorem run_nrm {cs : CallSem} {lend : Nat → List Bool} {gl : Nat → Option (List V)} {F : DFun} {args : List V} {os : Objs} {s : St} {r : Option (V × Objs)}
    (h : exec cs lend gl F.body ⟨args ++ tups (F.ntmps - args.length), os, os.length, os.length⟩ = some (.nrm, s))
    (k : ((resV s F.results).bind fun vs => packR s.objs os.length (one1 vs)) = r) : runF cs lend gl F args os = r := by
  rw [tups_eq] at h; simp only [runF, h]; exact k
end Go.Dm
set_option linter.unusedSimpArgs false
set_option linter.unusedVariables false
namespace Go.Dm

def wordsV (l : List UInt32) : List V := l.map fun b => .int .u32 (b.toNat : Int)
theorem bytesV_length (l : List UInt8) : (bytesV l).length = l.length := by simp [bytesV]
theorem wordsV_length (l : List UInt32) : (wordsV l).length = l.length := by simp [wordsV]
theorem bytesV_get (l : List UInt8) (i : Nat) : (bytesV l)[i]? = l[i]?.map fun b => V.int .u8 (b.toNat : Int) := by simp [bytesV]
theorem wordsV_get (l : List UInt32) (i : Nat) : (wordsV l)[i]? = l[i]?.map fun b => V.int .u32 (b.toNat : Int) := by simp [wordsV]
theorem bytesV_get_lt {l : List UInt8} {i : Nat} (h : i < l.length) : (bytesV l)[i]? = some (V.int .u8 ((l[i]'h).toNat : Int)) := by simp [bytesV, h]
theorem wordsV_get_lt {l : List UInt32} {i : Nat} (h : i < l.length) : (wordsV l)[i]? = some (V.int .u32 ((l[i]'h).toNat : Int)) := by simp [wordsV, h]
theorem bytesV_set (l : List UInt8) (i : Nat) (x : UInt8) : (bytesV l).set i (V.int .u8 (x.toNat : Int)) = bytesV (l.set i x) := by simp [bytesV, List.map_set]
theorem wordsV_set (l : List UInt32) (i : Nat) (x : UInt32) : (wordsV l).set i (V.int .u32 (x.toNat : Int)) = wordsV (l.set i x) := by simp [wordsV, List.map_set]
theorem bytesV_take (l : List UInt8) (n : Nat) : (bytesV l).take n = bytesV (l.take n) := by simp [bytesV, List.map_take]
theorem bytesV_drop (l : List UInt8) (n : Nat) : (bytesV l).drop n = bytesV (l.drop n) := by simp [bytesV, List.map_drop]
theorem bytesV_append (l m : List UInt8) : bytesV l ++ bytesV m = bytesV (l ++ m) := by simp [bytesV]
theorem wordsV_take (l : List UInt32) (n : Nat) : (wordsV l).take n = wordsV (l.take n) := by simp [wordsV, List.map_take]
theorem wordsV_drop (l : List UInt32) (n : Nat) : (wordsV l).drop n = wordsV (l.drop n) := by simp [wordsV, List.map_drop]

theorem handsL_ints {α : Type} (k : IntKind) (f : α → Int) (l : List α) (ns : List Nat) : handsL ns (l.map fun x => V.int k (f x)) = ns := by
  induction l with
  | nil => rfl
  | cons x l ih => simp only [List.map_cons, handsL, hands, ih]
theorem renL_ints {α : Type} (k : IntKind) (f : α → Int) (l : List α) (g : Nat → Option Nat) : renL g (l.map fun x => V.int k (f x)) = some (l.map fun x => V.int k (f x)) := by
  induction l with
  | nil => rfl
  | cons x l ih => simp only [List.map_cons, renL, ren, ih]
theorem deepW_ints {α : Type} (k : IntKind) (f : α → Int) (l : List α) (g : Nat → Option Obj) (n : Nat) : deepW (deep g (n + 1)) (l.map fun x => V.int k (f x)) = some (l.map fun x => V.int k (f x), []) := by
  induction l with
  | nil => rfl
  | cons x l ih => rw [List.map_cons, deepW, ih]; rfl
theorem handsL_bytes (l : List UInt8) (ns : List Nat) : handsL ns (bytesV l) = ns := handsL_ints _ _ _ _
theorem renL_bytes (l : List UInt8) (g : Nat → Option Nat) : renL g (bytesV l) = some (bytesV l) := renL_ints _ _ _ _
theorem deepW_bytes (l : List UInt8) (g : Nat → Option Obj) (n : Nat) : deepW (deep g (n + 1)) (bytesV l) = some (bytesV l, []) := deepW_ints _ _ _ _ _
theorem handsL_words (l : List UInt32) (ns : List Nat) : handsL ns (wordsV l) = ns := handsL_ints _ _ _ _
theorem renL_words (l : List UInt32) (g : Nat → Option Nat) : renL g (wordsV l) = some (wordsV l) := renL_ints _ _ _ _
theorem deepW_words (l : List UInt32) (g : Nat → Option Obj) (n : Nat) : deepW (deep g (n + 1)) (wordsV l) = some (wordsV l, []) := deepW_ints _ _ _ _ _
theorem cellsL_intf {α : Type} (k : IntKind) (f : α → Int) (l : List α) : cellsL (l.map fun x => V.int k (f x)) = l.map fun x => V.int k (f x) := by
  induction l with
  | nil => rfl
  | cons x l ih => simp only [cellsL, List.map_cons, List.flatMap_cons, V.cells] at ih ⊢; rw [ih]; rfl
theorem cellsL_bytes (l : List UInt8) : cellsL (bytesV l) = bytesV l := cellsL_intf _ _ _
theorem cellsL_words (l : List UInt32) : cellsL (wordsV l) = wordsV l := cellsL_intf _ _ _
theorem clean_ints {α : Type} (k : IntKind) (f : α → Int) (l : List α) : clean.cleanL (l.map fun x => V.int k (f x)) = true := by
  induction l with
  | nil => rfl
  | cons x l ih => simp only [List.map_cons, clean.cleanL, clean, ih, Bool.and_self]
theorem clean_bytes (l : List UInt8) : clean.cleanL (bytesV l) = true := clean_ints _ _ _
theorem clean_words (l : List UInt32) : clean.cleanL (wordsV l) = true := clean_ints _ _ _

section
variable (cs : CallSem) (lend : Nat → List Bool) (gl : Nat → Option (List V))

def andThen (r : Option (Ex × St)) (b : DCode) : Option (Ex × St) :=
  match r with
  | some (.nrm, s') => exec cs lend gl b s'
  | r => r
def asNrm (k : Nat) : Option (List V × Objs × Nat) → Option (Ex × St)
  | some (env, os, nx) => some (.nrm, ⟨env, os, nx, k⟩)
  | none => none
def goOp (base n j : Nat) (r : List DO) (dst : Option Nat) (env : List V) (os : Objs) (nx : Nat) (want : Option Bool) (e : Option Eff) : Option (List V × Objs × Nat) :=
  match want, e with
  | some true, some e => runSeq cs lend gl base n (j + 1) r (putE env dst e.v) (effO os (base + j) e) (topK nx e.upds)
  | some false, _ => runSeq cs lend gl base n (j + 1) r (putE env dst (.tup [])) os nx
  | _, _ => none
/-- Effects by their positions; those that change nothing need not be named. -/
def SpR (es : List Eff) (sp : List (Nat × Eff)) : Prop := ∀ i, match sp.lookup i with
  | some e => es[i]? = some e
  | none => ∀ e, es[i]? = some e → e.new = none ∧ e.upds = []
def visS (base : Nat) (sp : List (Nat × Eff)) : List Nat → Objs → Objs
  | [], os => os
  | i :: r, os => match sp.lookup i with
    | some e => visS base sp r (effO os (base + i) e)
    | none => visS base sp r os
def confS (sp : List (Nat × Eff)) : List Nat → Objs → Objs
  | [], os => os
  | i :: r, os => match sp.lookup i with
    | some e => confS sp r ((effKeys e).foldl delO os)
    | none => confS sp r os
theorem effO_none {os : Objs} {nm : Nat} {e : Eff} (h : e.new = none ∧ e.upds = []) : effO os nm e = os := by
  obtain ⟨v, new, upds⟩ := e
  obtain ⟨rfl, rfl⟩ := h
  rfl
theorem visS_eq {es : List Eff} {sp : List (Nat × Eff)} (h : SpR es sp) (base : Nat) : ∀ (vis : List Nat) (os : Objs), visO base es vis os = visS base sp vis os
  | [], os => rfl
  | i :: r, os => by
    have hi := h i
    simp only [visO, visS]
    cases hl : sp.lookup i with
    | some e => simp only [hl] at hi; simp only [hi]; exact visS_eq h base r _
    | none =>
      simp only [hl] at hi
      cases he : es[i]? with
      | none => exact visS_eq h base r _
      | some e => simp only [effO_none (hi e he)]; exact visS_eq h base r _
theorem confS_eq {es : List Eff} {sp : List (Nat × Eff)} (h : SpR es sp) : ∀ (vis : List Nat) (os : Objs), confO es vis os = confS sp vis os
  | [], os => rfl
  | i :: r, os => by
    have hi := h i
    simp only [confO, confS]
    cases hl : sp.lookup i with
    | some e => simp only [hl] at hi; simp only [hi]; exact confS_eq h r _
    | none =>
      simp only [hl] at hi
      cases he : es[i]? with
      | none => exact confS_eq h r _
      | some e => simp only [effKeys, (hi e he).2, List.map_nil, List.foldl_nil]; exact confS_eq h r _
def runDrwS (base n : Nat) (os0 : Objs) : Nat → List DO → List V → Objs → Nat → List (Nat × Eff) → Option (List V × Objs × Nat)
  | _, [], env, os, nx, _ => some (env, os, nx)
  | j, o :: r, env, os, nx, sp => match wantD env o.guard with
    | some true => (match stepC cs lend gl (evL env) (confS sp o.conf (visS base sp o.vis os0)) (base + j) n o.op with
      | some e => if o.still && !e.upds.isEmpty then none else runDrwS base n os0 (j + 1) r (putE env o.dst e.v) (effO os (base + j) e) (topK nx e.upds) (if e.new.isNone && e.upds.isEmpty then sp else (j, e) :: sp)
      | none => none)
    | some false => runDrwS base n os0 (j + 1) r (putE env o.dst (.tup [])) os nx sp
    | none => none
theorem lookup_lt {sp : List (Nat × Eff)} {n : Nat} (h : ∀ p ∈ sp, p.1 < n) : sp.lookup n = none := by
  induction sp with
  | nil => rfl
  | cons p sp ih =>
    obtain ⟨k, b⟩ := p
    have h1 : k < n := h (k, b) (by simp)
    have h2 : (n == k) = false := beq_false_of_ne (by omega)
    simp only [List.lookup_cons, h2]
    exact ih fun q hq => h q (by simp [hq])
theorem runDrwS_eq (base n : Nat) (os0 : Objs) : ∀ (l : List DO) (env : List V) (os : Objs) (nx : Nat) (es : List Eff) (sp : List (Nat × Eff)), SpR es sp → (∀ p ∈ sp, p.1 < es.length) →
    runDrw cs lend gl base n os0 es.length l env os nx es = runDrwS cs lend gl base n os0 es.length l env os nx sp
  | [], env, os, nx, es, sp, h, hl => rfl
  | o :: r, env, os, nx, es, sp, h, hl => by
    simp only [runDrw, runDrwS, visS_eq h, confS_eq h]
    have hlast : ∀ e : Eff, (es ++ [e])[es.length]? = some e := fun e => by simp
    have hold : ∀ (e : Eff) (i : Nat), i ≠ es.length → (es ++ [e])[i]? = es[i]? := fun e i hi => by
      by_cases hlt : i < es.length
      · rw [List.getElem?_append_left hlt]
      · rw [List.getElem?_eq_none (by simp; omega), List.getElem?_eq_none (by omega)]
    have hskip : ∀ e : Eff, e.new = none ∧ e.upds = [] → SpR (es ++ [e]) sp := fun e he i => by
      by_cases hi : i = es.length
      · subst hi
        rw [lookup_lt hl]
        intro e' he'
        rw [hlast] at he'
        cases he'
        exact he
      · rw [hold e i hi]; exact h i
    have hput : ∀ e : Eff, SpR (es ++ [e]) ((es.length, e) :: sp) := fun e i => by
      by_cases hi : i = es.length
      · subst hi
        simp only [List.lookup_cons, beq_self_eq_true]
        exact hlast e
      · rw [hold e i hi]
        simp only [List.lookup_cons]
        rw [show (i == es.length) = false by simpa using hi]
        exact h i
    cases wantD env o.guard with
    | none => rfl
    | some b =>
      cases b with
      | false =>
        have := runDrwS_eq base n os0 r (putE env o.dst (.tup [])) os nx (es ++ [⟨.tup [], none, []⟩]) sp (hskip _ ⟨rfl, rfl⟩) (fun p hp => by have := hl p hp; simp; omega)
        simpa only [List.length_append, List.length_cons, List.length_nil] using this
      | true =>
        simp only
        cases stepC cs lend gl (evL env) (confS sp o.conf (visS base sp o.vis os0)) (base + es.length) n o.op with
        | none => rfl
        | some e =>
          simp only
          split
          · rfl
          · split
            · rename_i hn
              have he : e.new = none ∧ e.upds = [] := by simpa using hn
              have := runDrwS_eq base n os0 r (putE env o.dst e.v) (effO os (base + es.length) e) (topK nx e.upds) (es ++ [e]) sp (hskip _ he) (fun p hp => by have := hl p hp; simp; omega)
              simpa only [List.length_append, List.length_cons, List.length_nil] using this
            · have := runDrwS_eq base n os0 r (putE env o.dst e.v) (effO os (base + es.length) e) (topK nx e.upds) (es ++ [e]) ((es.length, e) :: sp) (hput _) (fun p hp => by
                simp only [List.mem_cons] at hp
                rcases hp with rfl | hp
                · simp
                · have := hl p hp; simp; omega)
              simpa only [List.length_append, List.length_cons, List.length_nil] using this
def goDrw (base n : Nat) (os0 : Objs) (j : Nat) (r : List DO) (dst : Option Nat) (still : Bool) (env : List V) (os : Objs) (nx : Nat) (sp : List (Nat × Eff)) (want : Option Bool) (e : Option Eff) : Option (List V × Objs × Nat) :=
  match want, e with
  | some true, some e => if still && !e.upds.isEmpty then none else runDrwS cs lend gl base n os0 (j + 1) r (putE env dst e.v) (effO os (base + j) e) (topK nx e.upds) (if e.new.isNone && e.upds.isEmpty then sp else (j, e) :: sp)
  | some false, _ => runDrwS cs lend gl base n os0 (j + 1) r (putE env dst (.tup [])) os nx sp
  | _, _ => none
def ofBlock (id : Nat) (r : Option (Ex × St)) : Option (Ex × St) :=
  match r with
  | some (.exit i, s') => if i = id then some (.nrm, s') else some (.exit i, s')
  | r => r
def onCond (v : V) (a b : DCode) (s : St) : Option (Ex × St) :=
  match v with
  | .bool true => exec cs lend gl a s
  | .bool false => exec cs lend gl b s
  | _ => none
def ofRound (h : St → Option St) : Option (Ex × St) → Option St
  | some (.nrm, s') => h s'
  | _ => none

/-- Running, as equations. -/
theorem xRun :
    (∀ s, exec cs lend gl .skip s = some (.nrm, s)) ∧
    (∀ s, exec cs lend gl .ret s = some (.ret, s)) ∧
    (∀ i s, exec cs lend gl (.exit i) s = some (.exit i, s)) ∧
    (∀ a b s, exec cs lend gl (.seq a b) s = andThen cs lend gl (exec cs lend gl a s) b) ∧
    (∀ s b, andThen cs lend gl (some (.nrm, s)) b = exec cs lend gl b s) ∧
    (∀ s b, andThen cs lend gl (some (.ret, s)) b = some (.ret, s)) ∧
    (∀ i s b, andThen cs lend gl (some (.exit i, s)) b = some (.exit i, s)) ∧
    (∀ ops env os nx k, exec cs lend gl (.seqr ops) ⟨env, os, nx, k⟩ = asNrm k (runSeq cs lend gl nx ops.length 0 ops env os (nx + ops.length))) ∧
    (∀ ops env os nx k, exec cs lend gl (.drwr ops) ⟨env, os, nx, k⟩ = asNrm k (runDrwS cs lend gl nx ops.length os 0 ops env os (nx + ops.length) [])) ∧
    (∀ x a b s, exec cs lend gl (.cond x a b) s = onCond cs lend gl (evL s.env x) a b s) ∧
    (∀ a b s, onCond cs lend gl (.bool true) a b s = exec cs lend gl a s) ∧
    (∀ a b s, onCond cs lend gl (.bool false) a b s = exec cs lend gl b s) ∧
    (∀ id c s, exec cs lend gl (.block id c) s = ofBlock id (exec cs lend gl c s)) ∧
    (∀ live c s, exec cs lend gl (.loop live c) s = fromHead cs lend gl live c (canon live s)) ∧
    (∀ ts c s, exec cs lend gl (.frz ts c) s = exec cs lend gl c (ts.foldl frzT s)) ∧
    (∀ base n j env os nx, runSeq cs lend gl base n j [] env os nx = some (env, os, nx)) ∧
    (∀ base n j dst op guard src vis conf still r env os nx, runSeq cs lend gl base n j (⟨dst, op, guard, src, vis, conf, still⟩ :: r) env os nx =
      goOp cs lend gl base n j r dst env os nx (wantD env guard) (stepC cs lend gl (evL env) os (base + j) n op)) ∧
    (∀ base n j r dst env os nx v, goOp cs lend gl base n j r dst env os nx (some true) (some (Eff.val v)) = runSeq cs lend gl base n (j + 1) r (putE env dst v) os nx) ∧
    (∀ base n j r dst env os nx v new upds, goOp cs lend gl base n j r dst env os nx (some true) (some ⟨v, new, upds⟩) = runSeq cs lend gl base n (j + 1) r (putE env dst v) (effO os (base + j) ⟨v, new, upds⟩) (topK nx upds)) ∧
    (∀ base n j r dst env os nx e, goOp cs lend gl base n j r dst env os nx (some false) e = runSeq cs lend gl base n (j + 1) r (putE env dst (.tup [])) os nx) ∧
    (∀ base n os0 j env os nx sp, runDrwS cs lend gl base n os0 j [] env os nx sp = some (env, os, nx)) ∧
    (∀ base n os0 j dst op guard src vis conf still r env os nx sp, runDrwS cs lend gl base n os0 j (⟨dst, op, guard, src, vis, conf, still⟩ :: r) env os nx sp =
      goDrw cs lend gl base n os0 j r dst still env os nx sp (wantD env guard) (stepC cs lend gl (evL env) (confS sp conf (visS base sp vis os0)) (base + j) n op)) ∧
    (∀ base n os0 j r dst still env os nx sp v, goDrw cs lend gl base n os0 j r dst still env os nx sp (some true) (some (Eff.val v)) = runDrwS cs lend gl base n os0 (j + 1) r (putE env dst v) os nx sp) ∧
    (∀ base n os0 j r dst still env os nx sp v, goDrw cs lend gl base n os0 j r dst still env os nx sp (some true) (some ⟨v, none, []⟩) = runDrwS cs lend gl base n os0 (j + 1) r (putE env dst v) os nx sp) ∧
    (∀ base n os0 j r dst env os nx sp v new upd upds, goDrw cs lend gl base n os0 j r dst false env os nx sp (some true) (some ⟨v, new, upd :: upds⟩) = runDrwS cs lend gl base n os0 (j + 1) r (putE env dst v) (effO os (base + j) ⟨v, new, upd :: upds⟩) (topK nx (upd :: upds)) ((j, ⟨v, new, upd :: upds⟩) :: sp)) ∧
    (∀ base n os0 j r dst still env os nx sp v new, goDrw cs lend gl base n os0 j r dst still env os nx sp (some true) (some ⟨v, some new, []⟩) = runDrwS cs lend gl base n os0 (j + 1) r (putE env dst v) (effO os (base + j) ⟨v, some new, []⟩) nx ((j, ⟨v, some new, []⟩) :: sp)) ∧
    (∀ base n os0 j r dst still env os nx sp e, goDrw cs lend gl base n os0 j r dst still env os nx sp (some false) e = runDrwS cs lend gl base n os0 (j + 1) r (putE env dst (.tup [])) os nx sp) := by
  refine ⟨fun _ => rfl, fun _ => rfl, fun _ _ => rfl, ?_, fun _ _ => rfl, fun _ _ => rfl, fun _ _ _ => rfl, ?_, ?_, ?_, fun _ _ _ => rfl, fun _ _ _ => rfl, ?_, fun _ _ _ => exec_loop, fun _ _ _ => rfl,
    fun _ _ _ _ _ _ => rfl, ?_, fun _ _ _ _ _ _ _ _ _ => rfl, fun _ _ _ _ _ _ _ _ _ _ _ => rfl, ?_, fun _ _ _ _ _ _ _ _ => rfl, ?_, ?_, ?_, ?_, ?_, ?_⟩
  · intro a b s
    simp only [exec, andThen]
    cases exec cs lend gl a s with
    | none => rfl
    | some p => obtain ⟨e, s'⟩ := p; cases e <;> rfl
  · intro ops env os nx k
    simp only [exec, asNrm]
    cases runSeq cs lend gl nx ops.length 0 ops env os (nx + ops.length) <;> rfl
  · intro ops env os nx k
    have := runDrwS_eq cs lend gl nx ops.length os ops env os (nx + ops.length) [] [] (fun i => by simp) (by simp)
    simp only [List.length_nil] at this
    simp only [exec, asNrm, this]
    cases runDrwS cs lend gl nx ops.length os 0 ops env os (nx + ops.length) [] <;> rfl
  · intro x a b s
    simp only [exec, onCond]
    generalize evL s.env x = v
    cases v with
    | bool b => cases b <;> rfl
    | _ => rfl
  · intro id c s
    simp only [exec, ofBlock]
    cases exec cs lend gl c s with
    | none => rfl
    | some p => obtain ⟨e, s'⟩ := p; cases e <;> rfl
  · intro base n j dst op guard src vis conf still r env os nx
    simp only [runSeq, goOp]
    cases wantD env guard with
    | none => rfl
    | some b =>
      cases b with
      | false => rfl
      | true => cases stepC cs lend gl (evL env) os (base + j) n op <;> rfl
  · intro base n j r dst env os nx e
    cases e <;> rfl
  · intro base n os0 j dst op guard src vis conf still r env os nx sp
    simp only [runDrwS, goDrw]
    cases wantD env guard with
    | none => rfl
    | some b =>
      cases b with
      | false => rfl
      | true => cases stepC cs lend gl (evL env) (confS sp conf (visS base sp vis os0)) (base + j) n op <;> rfl
  · intro base n os0 j r dst still env os nx sp v
    simp [goDrw, Eff.val, effO, updsO, topK]
  · intro base n os0 j r dst still env os nx sp v
    simp [goDrw, effO, updsO, topK]
  · intro base n os0 j r dst env os nx sp v new upd upds
    simp [goDrw]
  · intro base n os0 j r dst still env os nx sp v new
    simp [goDrw, topK]
  · intro base n os0 j r dst still env os nx sp e
    cases e <;> rfl
end
theorem xRun0 :
    (∀ k env os nx, asNrm k (some (env, os, nx)) = some (.nrm, ⟨env, os, nx, k⟩)) ∧
    (∀ id s, ofBlock id (some (.nrm, s)) = some (.nrm, s)) ∧
    (∀ id s, ofBlock id (some (.ret, s)) = some (.ret, s)) ∧
    (∀ id i s, ofBlock id (some (.exit i, s)) = if i = id then some (.nrm, s) else some (.exit i, s)) ∧
    (∀ f h s, round f h s = ofRound h (f s)) ∧
    (∀ h s, ofRound h (some (.nrm, s)) = h s) := by
  refine ⟨fun _ _ _ _ => rfl, fun _ _ => rfl, fun _ _ => rfl, fun _ _ _ => rfl, ?_, fun _ _ => rfl⟩
  · intro f h s
    unfold round
    cases f s with
    | none => rfl
    | some p => obtain ⟨e, s'⟩ := p; cases e <;> rfl

theorem xCmp :
    (∀ k a b, binV .eql (.int k a) (.int k b) = some (.bool (a == b))) ∧
    (∀ k a b, binV .neq (.int k a) (.int k b) = some (.bool (a != b))) ∧
    (∀ k a b, binV .lss (.int k a) (.int k b) = some (.bool (decide (a < b)))) ∧
    (∀ k a b, binV .leq (.int k a) (.int k b) = some (.bool (decide (a ≤ b)))) ∧
    (∀ k a b, binV .gtr (.int k a) (.int k b) = some (.bool (decide (b < a)))) ∧
    (∀ k a b, binV .geq (.int k a) (.int k b) = some (.bool (decide (b ≤ a)))) := by
  refine ⟨?_, ?_, ?_, ?_, ?_, ?_⟩ <;> intro k a b <;> simp [binV, isShift, binI]
def wantB (b : Bool) : V → Option Bool
  | .bool c => some (c == b)
  | .tup [] => some false
  | _ => none
theorem xWant (env : List V) : wantD env none = some true ∧ (∀ t b, wantD env (some (t, b)) = wantB b (env.getD t .undef)) :=
  ⟨rfl, fun t b => by simp only [wantD, wantB]; generalize env.getD t .undef = v; cases v with | tup vs => cases vs <;> rfl | _ => rfl⟩
theorem xUn : (∀ b, unV .not (.bool b) = some (.bool (!b))) ∧ (∀ k n, unV .neg (.int k n) = some (.int k (k.wrap (0 - n)))) := ⟨fun _ => rfl, fun _ _ => rfl⟩
theorem xI64 :
    (∀ a b, binV .add (.int .i64 a) (.int .i64 b) = some (.int .i64 (IntKind.i64.wrap (a + b)))) ∧
    (∀ a b, binV .sub (.int .i64 a) (.int .i64 b) = some (.int .i64 (IntKind.i64.wrap (a - b)))) ∧
    (∀ a b, binV .mul (.int .i64 a) (.int .i64 b) = some (.int .i64 (IntKind.i64.wrap (a * b)))) ∧
    (∀ a b, binV .quo (.int .i64 a) (.int .i64 b) = if b ≠ 0 then some (.int .i64 (IntKind.i64.wrap (a.tdiv b))) else none) ∧
    (∀ a b, binV .rem (.int .i64 a) (.int .i64 b) = if b ≠ 0 then some (.int .i64 (a.tmod b)) else none) ∧
    (∀ a b, binV .and (.int .i64 a) (.int .i64 b) = some (.int .i64 (bitsV .and .i64 a b))) ∧
    (∀ a b, binV .or (.int .i64 a) (.int .i64 b) = some (.int .i64 (bitsV .or .i64 a b))) ∧
    (∀ a b, binV .xor (.int .i64 a) (.int .i64 b) = some (.int .i64 (bitsV .xor .i64 a b))) ∧
    (∀ a b, binV .andNot (.int .i64 a) (.int .i64 b) = some (.int .i64 (bitsV .andNot .i64 a b))) := by
  refine ⟨?_, ?_, ?_, ?_, ?_, ?_, ?_, ?_, ?_⟩ <;> intro a b <;> simp [binV, isShift, binI]
theorem xStr :
    (∀ a b, binV .eql (.str a) (.str b) = some (.bool (a == b))) ∧
    (∀ a b, binV .neq (.str a) (.str b) = some (.bool (!(a == b)))) ∧
    (∀ a b, binV .add (.str a) (.str b) = if a.length + b.length ≤ 9223372036854775807 then some (.str (a ++ b)) else none) := by
  refine ⟨?_, ?_, ?_⟩ <;> intro a b <;> simp [binV, binS]
def canonF (live : List Nat) (n k : Nat) (vs : List V) (os : Objs) (ns : List Nat) : Option St :=
  match packO os (posN · ns 0) 0 ns with
  | some os => some ⟨putL live (vs.map fun v => (ren (posN · ns 0) v).getD .undef) (undefs n), os, ns.length, k⟩
  | none => none
/-- A frame of n slots: those named, the others open. -/
def envOf (n : Nat) (l : List (Nat × V)) : List V := l.foldl (fun e p => e.set p.1 p.2) (undefs n)
theorem getD_some {α : Type} {l : List α} {j : Nat} (d : α) (h : j < l.length) : l[j]? = some (l.getD j d) := by
  rw [List.getElem?_eq_getElem h, List.getD_eq_getElem?_getD, List.getElem?_eq_getElem h]; rfl
theorem bytesV_at {l : List UInt8} {i : Nat} (h : i < l.length) : (bytesV l)[i]? = some (V.int .u8 ((l.getD i 0).toNat : Int)) := by
  rw [bytesV_get, getD_some 0 h]; rfl
theorem wordsV_at {l : List UInt32} {i : Nat} (h : i < l.length) : (wordsV l)[i]? = some (V.int .u32 ((l.getD i 0).toNat : Int)) := by
  rw [wordsV_get, getD_some 0 h]; rfl
theorem wrap_subn {i : Nat} {n : Int} (h0 : 0 ≤ n) (h1 : n ≤ i) (h : i < 4611686018427387904) : IntKind.i64.wrap ((i : Int) - n) = ((i - n.toNat : Nat) : Int) := by
  rw [wrapi (by omega) (by omega)]; omega
theorem wrap_addn {i : Nat} {n : Int} (h0 : 0 ≤ n) (h1 : n < 4611686018427387904) (h : i < 4611686018427387904) : IntKind.i64.wrap ((i : Int) + n) = ((i + n.toNat : Nat) : Int) := by
  rw [wrapi (by omega) (by omega)]; omega
theorem wrap_muln {i : Nat} {n : Int} (h0 : 0 ≤ n) (h1 : n < 1073741824) (h : i < 1073741824) : IntKind.i64.wrap (n * (i : Int)) = ((n.toNat * i : Nat) : Int) := by
  obtain ⟨m, rfl⟩ := Int.eq_ofNat_of_zero_le h0
  have h2 : m * i ≤ 1073741824 * 1073741824 := Nat.mul_le_mul (by omega) (by omega)
  have e : (m : Int) * (i : Int) = ((m * i : Nat) : Int) := by push_cast; rfl
  rw [e, wrapi (by omega) (by omega)]
  simp
theorem canon_eq (live : List Nat) (env : List V) (os : Objs) (nx k : Nat) : canon live ⟨env, os, nx, k⟩ =
    canonF live env.length k (live.map fun t => env.getD t .undef) os (reach os bfs 0 (handsL (List.range k) (live.map fun t => env.getD t .undef))) := by
  unfold canonF
  rw [undefs_eq]
  rfl
theorem visS_nil (base : Nat) (vis : List Nat) (os : Objs) : visS base [] vis os = os := by
  induction vis with
  | nil => rfl
  | cons i r ih => simp only [visS, List.lookup_nil, ih]
theorem confS_nil (vis : List Nat) (os : Objs) : confS [] vis os = os := by
  induction vis with
  | nil => rfl
  | cons i r ih => simp only [confS, List.lookup_nil, ih]
theorem ncast0 : ((0 : Nat) : Int) = 0 := rfl
theorem ncast1 : ((1 : Nat) : Int) = 1 := rfl
theorem zero8 : ((UInt8.toNat 0 : Nat) : Int) = 0 := rfl
theorem zero32 : ((UInt32.toNat 0 : Nat) : Int) = 0 := rfl
theorem wrap_succ {i : Nat} (h : i < 4611686018427387904) : IntKind.i64.wrap ((i : Int) + 1) = ((i + 1 : Nat) : Int) := by
  rw [wrapi (by omega) (by omega)]; rfl

/-! The same without matches whose arms go on. -/
def reachO (os : Objs) (n i : Nat) (ns : List Nat) : Option Nat → List Nat
  | none => ns
  | some h => reach os n (i + 1) (handsO ns (getO os h))
def goneO (os2 : Objs) (i h : Nat) (r : List Nat) : Option Obj → List (Nat × Option Obj)
  | some _ => gone os2 (i + 1) r
  | none => (h, none) :: gone os2 (i + 1) r
def deepC (f : V → Option (V × List Nat)) (r : List V) : Option (V × List Nat) → Option (List V × List Nat)
  | some (x, k) => deepD x k (deepW f r)
  | none => none
where deepD (x : V) (k : List Nat) : Option (List V × List Nat) → Option (List V × List Nat)
  | some (xs, ks) => some (x :: xs, k ++ ks)
  | none => none
def visL (base : Nat) (sp : List (Nat × Eff)) (r : List Nat) (os : Objs) (nm : Nat) : Option Eff → Objs
  | some e => visS base sp r (effO os nm e)
  | none => visS base sp r os
def confL (sp : List (Nat × Eff)) (r : List Nat) (os : Objs) : Option Eff → Objs
  | some e => confS sp r ((effKeys e).foldl delO os)
  | none => confS sp r os
theorem xGo :
    (∀ os i ns, reach os 0 i ns = ns) ∧ (∀ os n i ns, reach os (n + 1) i ns = reachO os n i ns ns[i]?) ∧
    (∀ os n i ns, reachO os n i ns none = ns) ∧ (∀ os n i ns h, reachO os n i ns (some h) = reach os n (i + 1) (handsO ns (getO os h))) ∧
    (∀ ns, handsO ns none = ns) ∧ (∀ ns cs, handsO ns (some (.box cs)) = handsL ns cs) ∧ (∀ ns es s, handsO ns (some (.row es s)) = ns) ∧ (∀ ns es, handsO ns (some (.mp es)) = ns) ∧
    (∀ os2 i, gone os2 i [] = []) ∧ (∀ os2 i h r, gone os2 i (h :: r) = goneO os2 i h r (getO os2 i)) ∧
    (∀ os2 i h r o, goneO os2 i h r (some o) = gone os2 (i + 1) r) ∧ (∀ os2 i h r, goneO os2 i h r none = (h, none) :: gone os2 (i + 1) r) ∧
    (∀ f, deepW f [] = some ([], [])) ∧ (∀ f v r, deepW f (v :: r) = deepC f r (f v)) ∧ (∀ f r x k, deepC f r (some (x, k)) = deepC.deepD x k (deepW f r)) ∧ (∀ x k xs ks, deepC.deepD x k (some (xs, ks)) = some (x :: xs, k ++ ks)) ∧
    (∀ base sp os, visS base sp [] os = os) ∧ (∀ base sp i r os, visS base sp (i :: r) os = visL base sp r os (base + i) (sp.lookup i)) ∧
    (∀ base sp r os nm e, visL base sp r os nm (some e) = visS base sp r (effO os nm e)) ∧ (∀ base sp r os nm, visL base sp r os nm none = visS base sp r os) ∧
    (∀ sp os, confS sp [] os = os) ∧ (∀ sp i r os, confS sp (i :: r) os = confL sp r os (sp.lookup i)) ∧
    (∀ sp r os e, confL sp r os (some e) = confS sp r ((effKeys e).foldl delO os)) ∧ (∀ sp r os, confL sp r os none = confS sp r os) ∧
    (∀ (i k : Nat) (e : Eff) sp, List.lookup i ((k, e) :: sp) = if i = k then some e else sp.lookup i) := by
  refine ⟨fun _ _ _ => rfl, fun _ _ _ _ => ?_, fun _ _ _ _ => rfl, fun _ _ _ _ _ => rfl, fun _ => rfl, fun _ _ => rfl, fun _ _ _ => rfl, fun _ _ => rfl, fun _ _ => rfl, fun _ _ _ _ => ?_, fun _ _ _ _ _ => rfl, fun _ _ _ _ => rfl,
    fun _ => rfl, fun _ _ _ => ?_, fun _ _ _ _ => rfl, fun _ _ _ _ => rfl, fun _ _ _ => rfl, fun _ _ _ _ _ => ?_, fun _ _ _ _ _ _ => rfl, fun _ _ _ _ _ => rfl, fun _ _ => rfl, fun _ _ _ _ => ?_, fun _ _ _ _ => rfl, fun _ _ _ => rfl, fun _ _ _ _ => ?_⟩
  · simp only [reach, reachO]; split <;> rename_i h <;> simp only [h]
  · simp only [gone, goneO]; split <;> rename_i h <;> simp only [h]
  · simp only [deepW, deepC]
    split
    · rename_i h
      simp only [h, deepC.deepD]
      split <;> rename_i h2 <;> simp only [h2]
    · rename_i h; simp only [h]
  · simp only [visS, visL]
  · simp only [confS, confL]
  · rename_i i k e sp
    simp only [List.lookup_cons]
    by_cases h : i = k
    · subst h; simp
    · simp [h, beq_false_of_ne h]

def deepHs (h off len : Nat) : Option Obj → Option (V × List Nat)
  | some (.row es s) => if off + len ≤ es.length then some (.sl ((es.drop off).take len) s, [h]) else none
  | _ => none
def deepHp (f : V → Option (V × List Nat)) (h i k : Nat) : Option Obj → Option (V × List Nat)
  | some (.box cs) => if i = 0 ∧ k = 0 then (deepW f cs).map fun p => (.pt p.1, h :: p.2) else none
  | _ => none
theorem xDeep (g : Nat → Option Obj) (n : Nat) :
    (∀ b, deep g (n + 1) (.bool b) = some (.bool b, [])) ∧ (∀ k x, deep g (n + 1) (.int k x) = some (.int k x, [])) ∧ (∀ l, deep g (n + 1) (.str l) = some (.str l, [])) ∧
    (deep g (n + 1) .nilp = some (.nilp, [])) ∧ (deep g (n + 1) .nils = some (.nils, [])) ∧ (deep g (n + 1) .nilm = some (.nilm, [])) ∧ (deep g (n + 1) .nili = some (.nili, [])) ∧ (deep g (n + 1) .nilf = some (.nilf, [])) ∧
    (∀ es s, deep g (n + 1) (.sl es s) = some (.sl es s, [])) ∧ (∀ cs, deep g (n + 1) (.pt cs) = some (.pt cs, [])) ∧ (∀ a b, deep g (n + 1) (.gp a b) = some (.gp a b, [])) ∧
    (∀ t x, deep g (n + 1) (.iface t x) = (deep g n x).map fun p => (.iface t p.1, p.2)) ∧ (∀ cs, deep g (n + 1) (.agg cs) = (deepW (deep g n) cs).map fun p => (.agg p.1, p.2)) ∧
    (∀ h off len, deep g (n + 1) (.hs h off len) = deepHs h off len (g h)) ∧ (∀ h i k, deep g (n + 1) (.hp h i k) = deepHp (deep g n) h i k (g h)) :=
  ⟨fun _ => rfl, fun _ _ => rfl, fun _ => rfl, rfl, rfl, rfl, rfl, rfl, fun _ _ => rfl, fun _ => rfl, fun _ _ => rfl, fun _ _ => rfl, fun _ => rfl, fun h _ _ => by simp only [deep]; generalize g h = o; cases o with | none => rfl | some o => cases o <;> rfl, fun h _ _ => by simp only [deep]; generalize g h = o; cases o with | none => rfl | some o => cases o <;> rfl⟩
theorem xDeep0 :
    (∀ h off len es s, deepHs h off len (some (.row es s)) = if off + len ≤ es.length then some (.sl ((es.drop off).take len) s, [h]) else none) ∧
    (∀ f h i k cs, deepHp f h i k (some (.box cs)) = if i = 0 ∧ k = 0 then (deepW f cs).map fun p => (.pt p.1, h :: p.2) else none) := ⟨fun _ _ _ _ _ => rfl, fun _ _ _ _ _ => rfl⟩

theorem xV :
    (V.width .undef = 1) ∧
    (∀ b, V.width (.bool b) = 1) ∧
    (∀ k n, V.width (.int k n) = 1) ∧
    (∀ l, V.width (.str l) = 1) ∧
    (V.width .nilp = 1) ∧
    (V.width .nils = 1) ∧
    (V.width .nilm = 1) ∧
    (V.width .nili = 1) ∧
    (V.width .nilf = 1) ∧
    (∀ t v, V.width (.iface t v) = 1) ∧
    (∀ cs, V.width (.agg cs) = cs.length) ∧
    (∀ vs, V.width (.tup vs) = 1) ∧
    (∀ es s, V.width (.sl es s) = 1) ∧
    (∀ cs, V.width (.pt cs) = 1) ∧
    (∀ h o l, V.width (.hs h o l) = 1) ∧
    (∀ h i f, V.width (.hp h i f) = 1) ∧
    (∀ h, V.width (.hm h) = 1) ∧
    (∀ g o, V.width (.gp g o) = 1) ∧
    (∀ f cs, V.width (.fn f cs) = 1) ∧
    (∀ cs, V.cells (.agg cs) = cs) ∧
    (V.cells .undef = [.undef]) ∧
    (∀ b, V.cells (.bool b) = [.bool b]) ∧
    (∀ k n, V.cells (.int k n) = [.int k n]) ∧
    (∀ l, V.cells (.str l) = [.str l]) ∧
    (V.cells .nilp = [.nilp]) ∧
    (V.cells .nils = [.nils]) ∧
    (V.cells .nilm = [.nilm]) ∧
    (V.cells .nili = [.nili]) ∧
    (V.cells .nilf = [.nilf]) ∧
    (∀ t v, V.cells (.iface t v) = [.iface t v]) ∧
    (∀ vs, V.cells (.tup vs) = [.tup vs]) ∧
    (∀ es s, V.cells (.sl es s) = [.sl es s]) ∧
    (∀ cs, V.cells (.pt cs) = [.pt cs]) ∧
    (∀ h o l, V.cells (.hs h o l) = [.hs h o l]) ∧
    (∀ h i f, V.cells (.hp h i f) = [.hp h i f]) ∧
    (∀ h, V.cells (.hm h) = [.hm h]) ∧
    (∀ g o, V.cells (.gp g o) = [.gp g o]) ∧
    (∀ f cs, V.cells (.fn f cs) = [.fn f cs]) ∧
    (V.sto .undef = false) ∧
    (∀ b, V.sto (.bool b) = true) ∧
    (∀ k n, V.sto (.int k n) = true) ∧
    (∀ l, V.sto (.str l) = true) ∧
    (V.sto .nilp = true) ∧
    (V.sto .nils = true) ∧
    (V.sto .nilm = true) ∧
    (V.sto .nili = true) ∧
    (V.sto .nilf = true) ∧
    (∀ t v, V.sto (.iface t v) = true) ∧
    (∀ cs, V.sto (.agg cs) = true) ∧
    (∀ vs, V.sto (.tup vs) = false) ∧
    (∀ es s, V.sto (.sl es s) = true) ∧
    (∀ cs, V.sto (.pt cs) = true) ∧
    (∀ h o l, V.sto (.hs h o l) = true) ∧
    (∀ h i f, V.sto (.hp h i f) = true) ∧
    (∀ h, V.sto (.hm h) = true) ∧
    (∀ g o, V.sto (.gp g o) = true) ∧
    (∀ f cs, V.sto (.fn f cs) = true) ∧
    (V.one .undef = false) ∧
    (∀ b, V.one (.bool b) = true) ∧
    (∀ k n, V.one (.int k n) = true) ∧
    (∀ l, V.one (.str l) = true) ∧
    (V.one .nilp = true) ∧
    (V.one .nils = true) ∧
    (V.one .nilm = true) ∧
    (V.one .nili = true) ∧
    (V.one .nilf = true) ∧
    (∀ t v, V.one (.iface t v) = true) ∧
    (∀ cs, V.one (.agg cs) = false) ∧
    (∀ vs, V.one (.tup vs) = false) ∧
    (∀ es s, V.one (.sl es s) = true) ∧
    (∀ cs, V.one (.pt cs) = true) ∧
    (∀ h o l, V.one (.hs h o l) = true) ∧
    (∀ h i f, V.one (.hp h i f) = true) ∧
    (∀ h, V.one (.hm h) = true) ∧
    (∀ g o, V.one (.gp g o) = true) ∧
    (∀ f cs, V.one (.fn f cs) = true) :=
  ⟨rfl, fun _ => rfl, fun _ _ => rfl, fun _ => rfl, rfl, rfl, rfl, rfl, rfl, fun _ _ => rfl, fun _ => rfl, fun _ => rfl, fun _ _ => rfl, fun _ => rfl, fun _ _ _ => rfl, fun _ _ _ => rfl, fun _ => rfl, fun _ _ => rfl, fun _ _ => rfl, fun _ => rfl, rfl, fun _ => rfl, fun _ _ => rfl, fun _ => rfl, rfl, rfl, rfl, rfl, rfl, fun _ _ => rfl, fun _ => rfl, fun _ _ => rfl, fun _ => rfl, fun _ _ _ => rfl, fun _ _ _ => rfl, fun _ => rfl, fun _ _ => rfl, fun _ _ => rfl, rfl, fun _ => rfl, fun _ _ => rfl, fun _ => rfl, rfl, rfl, rfl, rfl, rfl, fun _ _ => rfl, fun _ => rfl, fun _ => rfl, fun _ _ => rfl, fun _ => rfl, fun _ _ _ => rfl, fun _ _ _ => rfl, fun _ => rfl, fun _ _ => rfl, fun _ _ => rfl, rfl, fun _ => rfl, fun _ _ => rfl, fun _ => rfl, rfl, rfl, rfl, rfl, rfl, fun _ _ => rfl, fun _ => rfl, fun _ => rfl, fun _ _ => rfl, fun _ => rfl, fun _ _ _ => rfl, fun _ _ _ => rfl, fun _ => rfl, fun _ _ => rfl, fun _ _ => rfl⟩
def viewHs (s off len : Nat) : Option Obj → Option (List V)
  | some (.row es s') => if s' = s then (if off + len ≤ es.length then some ((es.drop off).take len) else none) else none
  | _ => none
def iaHs (arr : Option Nat) (s i h off len : Nat) : Option Obj → Option V
  | some (.row _ s') => if arr = none ∧ s' = s ∧ i < len then some (.hp h (off + i) 0) else none
  | _ => none
def iaHp (arr : Option Nat) (s i h j f : Nat) : Option Obj → Option V
  | some (.row es s') => match arr with
    | some n => if i < n then (if j = 0 ∧ f = 0 ∧ s' = s ∧ es.length = n then some (.hp h i 0) else some (.hp h j (f + i * s))) else none
    | none => none
  | some (.box _) => match arr with
    | some n => if i < n then some (.hp h j (f + i * s)) else none
    | none => none
  | _ => none
def slcHs (s h off len lo : Nat) (hi : Option Nat) : Option Obj → Option V
  | some (.row _ s') => if s' = s ∧ lo ≤ hi.getD len ∧ hi.getD len ≤ len then some (.hs h (off + lo) (hi.getD len - lo)) else none
  | _ => none
def slcHp (n s h i f lo : Nat) (hi : Option Nat) : Option Obj → Option V
  | some (.row es s') => if i = 0 ∧ f = 0 ∧ s' = s ∧ es.length = n ∧ lo ≤ hi.getD n ∧ hi.getD n ≤ n then some (.hs h lo (hi.getD n - lo)) else none
  | _ => none
def cpyHs (s h off len : Nat) (ys : List V) : Option Obj → Option Eff
  | some (.row es s') => if s' = s ∧ off + len ≤ es.length then
        some ⟨.int .i64 (min ys.length len : Nat), none, [(h, some (.row (spliceL es off (ys.take len)) s))]⟩ else none
  | _ => none
def appHs (s bytes nm h off len : Nat) (ys : List V) : Option Obj → Option Eff
  | some (.row es s') => if s' = s ∧ off = 0 ∧ len ≤ es.length ∧ (len + ys.length) * bytes ≤ roomBytes then some ⟨.hs nm 0 (len + ys.length), some (.row (es.take len ++ ys) s), [(h, none)]⟩ else none
  | _ => none
def loadHp (n : Nat) (agg : Bool) (i f : Nat) : Option Obj → Option V
  | some (.row es s) =>
      if f = 0 ∧ n = s then loadE es[i]?
      else if agg ∧ f = 0 ∧ 0 < s ∧ n % s = 0 ∧ i + n / s ≤ es.length then some (.agg (cellsL ((es.drop i).take (n / s))))
      else loadC es[i]?
  | some (.box cs) => if i = 0 then cutAs agg f n cs else none
  | _ => none
where
  loadE : Option V → Option V
    | some e => shapeAs agg n e
    | none => none
  loadC : Option V → Option V
    | some (.agg cs) => cutAs agg f n cs
    | _ => none
def storeHp (g : Nat → Option Obj) (n : Nat) (v : V) (h i f : Nat) : Option Obj → Option (List (Nat × Option Obj))
  | some (.row es s) =>
      if f = 0 ∧ n = s ∧ v.width = n then stR es s (deep g 6 v)
      else if i = 0 ∧ f = 0 ∧ n = es.length * s ∧ v.width = n ∧ 0 < s then stW s (deep g 6 v)
      else if v.width = n ∧ n = 1 ∧ f < s then stC es s es[i]? (deep g 6 v)
      else none
  | some (.box cs) => if i = 0 ∧ v.sto = true ∧ v.width = n ∧ f + n ≤ cs.length then some [(h, some (.box (spliceL cs f v.cells)))] else none
  | _ => none
where
  stR (es : List V) (s : Nat) : Option (V × List Nat) → Option (List (Nat × Option Obj))
    | some (x, ks) => if i < es.length ∧ !ks.contains h then some ((h, some (.row (es.set i x) s)) :: kills ks) else none
    | none => none
  stW (s : Nat) : Option (V × List Nat) → Option (List (Nat × Option Obj))
    | some (.agg cs, ks) => if !ks.contains h then some ((h, some (.row (rowOf s cs) s)) :: kills ks) else none
    | _ => none
  stC (es : List V) (s : Nat) : Option V → Option (V × List Nat) → Option (List (Nat × Option Obj))
    | some (.agg cs), some (x, ks) => if x.one = true ∧ !ks.contains h then some ((h, some (.row (es.set i (.agg (cs.set f x))) s)) :: kills ks) else none
    | _, _ => none
theorem xOps (g : Nat → Option Obj) :
    (∀ s, viewL g s .nils = some []) ∧ (∀ s es s', viewL g s (.sl es s') = if s' = s ∨ es = [] then some es else none) ∧ (∀ s h off len, viewL g s (.hs h off len) = viewHs s off len (g h)) ∧
    (∀ arr s i h off len, iaddrV g arr s i (.hs h off len) = iaHs arr s i h off len (g h)) ∧ (∀ arr s i h j f, iaddrV g arr s i (.hp h j f) = iaHp arr s i h j f (g h)) ∧
    (∀ s i es s' e, es[i]? = some e → iaddrV g none s i (.sl es s') = if s' = s then some (.pt e.cells) else none) ∧
    (∀ n s i cs, iaddrV g (some n) s i (.pt cs) = if i < n then some (.pt (cs.drop (i * s))) else none) ∧ (∀ n s i gi o, iaddrV g (some n) s i (.gp gi o) = if i < n then some (.gp gi (o + i * s)) else none) ∧
    (∀ s lo hi, slcLV g s .nils lo hi = if lo = 0 ∧ hi.getD 0 = 0 then some .nils else none) ∧ (∀ s es s' lo hi, slcLV g s (.sl es s') lo hi = if s' = s then (if lo ≤ hi.getD es.length ∧ hi.getD es.length ≤ es.length then some (.sl ((es.take (hi.getD es.length)).drop lo) s) else none) else none) ∧
    (∀ s h off len lo hi, slcLV g s (.hs h off len) lo hi = slcHs s h off len lo hi (g h)) ∧
    (∀ n s lo hi h i f, slcAV g n s lo hi (.hp h i f) = slcHp n s h i f lo hi (g h)) ∧ (∀ n s lo hi cs, slcAV g n s lo hi (.pt cs) = if s = 1 ∧ n ≤ cs.length ∧ lo ≤ hi.getD n ∧ hi.getD n ≤ n then some (.sl ((cs.take (hi.getD n)).drop lo) 1) else none) ∧
    (∀ s ys, cpyV g s .nils ys = some (.val (.int .i64 0))) ∧ (∀ s h off len ys, cpyV g s (.hs h off len) ys = cpyHs s h off len ys (g h)) ∧
    (∀ s bytes nm ys, appV g s bytes nm .nils ys = if ys = [] then some (.val .nils) else if ys.length * bytes ≤ roomBytes then some ⟨.hs nm 0 ys.length, some (.row ys s), []⟩ else none) ∧
    (∀ s bytes nm h off len ys, appV g s bytes nm (.hs h off len) ys = appHs s bytes nm h off len ys (g h)) ∧
    (∀ n agg h i f, loadV g n agg (.hp h i f) = loadHp n agg i f (g h)) ∧ (∀ n agg cs, loadV g n agg (.pt cs) = cutAs agg 0 n cs) ∧
    (∀ n v h i f, storeV g n v (.hp h i f) = storeHp g n v h i f (g h)) := by
  refine ⟨fun _ => rfl, fun _ _ _ => rfl, ?_, ?_, ?_, ?_, fun _ _ _ _ => rfl, fun _ _ _ _ _ => rfl, fun _ _ _ => rfl, fun _ _ _ _ _ => rfl, ?_, ?_, fun _ _ _ _ _ => rfl, fun _ _ => rfl, ?_, fun _ _ _ _ => rfl, ?_, ?_, fun _ _ _ => rfl, ?_⟩
  · intro s h off len; simp only [viewL]; generalize g h = o; cases o with | none => rfl | some o => cases o <;> rfl
  · intro arr s i h off len; simp only [iaddrV]; generalize g h = o; cases o with | none => rfl | some o => cases o <;> rfl
  · intro arr s i h j f; simp only [iaddrV]; generalize g h = o; cases arr <;> cases o with | none => rfl | some o => cases o <;> rfl
  · intro s i es s' e he; simp only [iaddrV, true_and, he]
  · intro s h off len lo hi; simp only [slcLV]; generalize g h = o; cases o with | none => rfl | some o => cases o <;> rfl
  · intro n s lo hi h i f; simp only [slcAV]; generalize g h = o; cases o with | none => rfl | some o => cases o <;> rfl
  · intro s h off len ys; simp only [cpyV]; generalize g h = o; cases o with | none => rfl | some o => cases o <;> rfl
  · intro s bytes nm h off len ys; simp only [appV]; generalize g h = o; cases o with | none => rfl | some o => cases o <;> rfl
  · intro n agg h i f
    simp only [loadV]
    generalize g h = o
    cases o with
    | none => rfl
    | some o =>
      cases o with
      | row es s =>
        simp only [loadHp]
        split
        · cases es[i]? <;> rfl
        · split
          · rfl
          · cases es[i]? with | none => rfl | some e => cases e <;> rfl
      | box cs => rfl
      | mp es => rfl
  · intro n v h i f
    simp only [storeV]
    cases hg : g h with
    | none => rfl
    | some o =>
      cases o with
      | row es s =>
        simp only [storeHp]
        split
        · cases deep g 6 v with | none => rfl | some p => rfl
        · split
          · cases deep g 6 v with | none => rfl | some p => obtain ⟨x, ks⟩ := p; cases x <;> rfl
          · split
            · cases es[i]? with
              | none => rfl
              | some e => cases e with
                | agg cs => cases deep g 6 v with | none => rfl | some p => rfl
                | _ => rfl
            · rfl
      | box cs => rfl
      | mp es => rfl
theorem xOps0 :
    (lenV .nils = some 0) ∧ (∀ es s, lenV (.sl es s) = some es.length) ∧ (∀ h o l, lenV (.hs h o l) = some l) ∧
    (∀ s off len es s', viewHs s off len (some (.row es s')) = if s' = s then (if off + len ≤ es.length then some ((es.drop off).take len) else none) else none) ∧
    (∀ arr s i h off len es s', iaHs arr s i h off len (some (.row es s')) = if arr = none ∧ s' = s ∧ i < len then some (.hp h (off + i) 0) else none) ∧
    (∀ n s i h j f es s', iaHp (some n) s i h j f (some (.row es s')) = if i < n then (if j = 0 ∧ f = 0 ∧ s' = s ∧ es.length = n then some (.hp h i 0) else some (.hp h j (f + i * s))) else none) ∧
    (∀ n s i h j f cs, iaHp (some n) s i h j f (some (.box cs)) = if i < n then some (.hp h j (f + i * s)) else none) ∧
    (∀ s h off len lo hi es s', slcHs s h off len lo hi (some (.row es s')) = if s' = s ∧ lo ≤ hi.getD len ∧ hi.getD len ≤ len then some (.hs h (off + lo) (hi.getD len - lo)) else none) ∧
    (∀ n s h i f lo hi es s', slcHp n s h i f lo hi (some (.row es s')) = if i = 0 ∧ f = 0 ∧ s' = s ∧ es.length = n ∧ lo ≤ hi.getD n ∧ hi.getD n ≤ n then some (.hs h lo (hi.getD n - lo)) else none) ∧
    (∀ s h off len ys es s', cpyHs s h off len ys (some (.row es s')) = if s' = s ∧ off + len ≤ es.length then some ⟨.int .i64 (min ys.length len : Nat), none, [(h, some (.row (spliceL es off (ys.take len)) s))]⟩ else none) ∧
    (∀ s bytes nm h off len ys es s', appHs s bytes nm h off len ys (some (.row es s')) = if s' = s ∧ off = 0 ∧ len ≤ es.length ∧ (len + ys.length) * bytes ≤ roomBytes then some ⟨.hs nm 0 (len + ys.length), some (.row (es.take len ++ ys) s), [(h, none)]⟩ else none) ∧
    (∀ n agg i f es s, loadHp n agg i f (some (.row es s)) = if f = 0 ∧ n = s then loadHp.loadE n agg es[i]? else if agg ∧ f = 0 ∧ 0 < s ∧ n % s = 0 ∧ i + n / s ≤ es.length then some (.agg (cellsL ((es.drop i).take (n / s)))) else loadHp.loadC n agg f es[i]?) ∧
    (∀ n agg i f cs, loadHp n agg i f (some (.box cs)) = if i = 0 then cutAs agg f n cs else none) ∧
    (∀ n agg e, loadHp.loadE n agg (some e) = shapeAs agg n e) ∧ (∀ n agg f cs, loadHp.loadC n agg f (some (.agg cs)) = cutAs agg f n cs) ∧
    (∀ g n v h i f es s, storeHp g n v h i f (some (.row es s)) = if f = 0 ∧ n = s ∧ v.width = n then storeHp.stR h i es s (deep g 6 v) else if i = 0 ∧ f = 0 ∧ n = es.length * s ∧ v.width = n ∧ 0 < s then storeHp.stW h s (deep g 6 v) else if v.width = n ∧ n = 1 ∧ f < s then storeHp.stC h i f es s es[i]? (deep g 6 v) else none) ∧
    (∀ g n v h i f cs, storeHp g n v h i f (some (.box cs)) = if i = 0 ∧ v.sto = true ∧ v.width = n ∧ f + n ≤ cs.length then some [(h, some (.box (spliceL cs f v.cells)))] else none) ∧
    (∀ h i es s x ks, storeHp.stR h i es s (some (x, ks)) = if i < es.length ∧ !ks.contains h then some ((h, some (.row (es.set i x) s)) :: kills ks) else none) ∧
    (∀ h s cs ks, storeHp.stW h s (some (.agg cs, ks)) = if !ks.contains h then some ((h, some (.row (rowOf s cs) s)) :: kills ks) else none) ∧
    (∀ h i f es s cs x ks, storeHp.stC h i f es s (some (.agg cs)) (some (x, ks)) = if x.one = true ∧ !ks.contains h then some ((h, some (.row (es.set i (.agg (cs.set f x))) s)) :: kills ks) else none) :=
  ⟨rfl, fun _ _ => rfl, fun _ _ _ => rfl, fun _ _ _ _ _ => rfl, fun _ _ _ _ _ _ _ _ => rfl, fun _ _ _ _ _ _ _ _ => rfl, fun _ _ _ _ _ _ _ => rfl, fun _ _ _ _ _ _ _ _ => rfl, fun _ _ _ _ _ _ _ _ _ => rfl, fun _ _ _ _ _ _ _ => rfl, fun _ _ _ _ _ _ _ _ _ => rfl,
    fun _ _ _ _ _ _ => rfl, fun _ _ _ _ _ => rfl, fun _ _ _ => rfl, fun _ _ _ _ => rfl, fun _ _ _ _ _ _ _ _ => rfl, fun _ _ _ _ _ _ _ => rfl, fun _ _ _ _ _ _ => rfl, fun _ _ _ _ => rfl, fun _ _ _ _ _ _ _ _ => rfl⟩

/-! A table of functions. -/
inductive FT where
  | none
  | leaf (k : Nat) (d : DFun)
  | node (m : Nat) (l r : FT)
def FT.get : FT → Nat → Option DFun
  | .none, _ => Option.none
  | .leaf k d, f => bif Nat.beq f k then some d else Option.none
  | .node m l r, f => bif Nat.blt f m then l.get f else r.get f
def FT.all (Q : Nat → DFun → Prop) : FT → Prop
  | .none => True
  | .leaf k d => Q k d
  | .node _ l r => l.all Q ∧ r.all Q
theorem FT.get_all {Q : Nat → DFun → Prop} : ∀ {t : FT}, t.all Q → ∀ {f : Nat} {F : DFun}, t.get f = some F → Q f F
  | .none, _, f, F, h => by cases h
  | .leaf k d, ha, f, F, h => by
    simp only [FT.get] at h
    cases hb : Nat.beq f k with
    | false => rw [hb] at h; cases h
    | true => rw [hb] at h; cases h; rw [Nat.eq_of_beq_eq_true hb]; exact ha
  | .node m l r, ha, f, F, h => by
    simp only [FT.get] at h
    cases hb : Nat.blt f m with
    | false => rw [hb] at h; exact FT.get_all ha.2 h
    | true => rw [hb] at h; exact FT.get_all ha.1 h
attribute [go_sem] xRun xRun0 xV xOps xOps0 decide_true decide_false wordsV_take bytesV_take wordsV_drop bytesV_drop cellsL_words cellsL_bytes List.length_replicate List.take_of_length_le false_and and_false Nat.le_refl ncast0 ncast1 Int.cast_ofNat_Int stepC step evL List.getD_cons_zero List.getD_cons_succ List.map_cons List.map_nil putE List.set_cons_zero List.set_cons_succ effO updsO updO putO delO getO topK visS_nil confS_nil effKeys List.lookup_nil xGo xWant wantB Eff.val Option.map_some Option.map_none Option.bind_some List.length_cons List.length_nil tups undefs List.cons_append List.nil_append List.append_nil Nat.zero_add Nat.add_zero if_true if_false and_self and_true true_and or_true true_or not_true not_false_eq_true Bool.false_eq_true Bool.true_beq Bool.false_beq Bool.not_true Bool.not_false Bool.and_true Bool.true_and Bool.or_true Bool.true_or Bool.or_false Bool.false_or Bool.or_self Bool.false_and Bool.and_false Bool.and_self bne_self_eq_false beq_self_eq_true Int.natCast_nonneg Int.lt_irrefl Int.toNat_natCast cutAs shapeAs xDeep xDeep0 kills doCall lendA pack packR hands handsL addN hasAll packO posN ren renL renO backN backO clean clean.cleanL cleanO canon_eq canonF putL resV one1 List.isEmpty_nil List.isEmpty_cons List.any_nil List.any_cons List.all_nil List.all_cons List.contains_nil List.contains_cons List.range List.range.loop Option.getD_some Option.isSome_some List.getElem?_cons_zero List.getElem?_cons_succ List.getElem?_nil List.drop_zero List.drop_succ_cons List.drop_nil bfs xUn bound natOf rowOf chunk envOf List.foldl_cons List.foldl_nil wrap_succ Nat.mul_one Nat.one_mul ne_eq Option.getD_none bytesV_set wordsV_set bytesV_length wordsV_length clean_bytes clean_words handsL_bytes renL_bytes deepW_bytes handsL_words renL_words deepW_words xCmp xI64 xStr faddrV u8_ofInt_toNat u32_ofInt_toNat
end Go.Dm
