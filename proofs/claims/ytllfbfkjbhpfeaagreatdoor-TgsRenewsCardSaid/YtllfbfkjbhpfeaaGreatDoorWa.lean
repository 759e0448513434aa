/- How closed calls are reckoned, with contracts in the place of the dear functions. -/
import Derived.Test.YtllfbfkjbhpfeaaGreatDoorDb
import Derived.Test.YtllfbfkjbhpfeaaGreatDoorChecked
import Derived.Laws.Externs
import Derived.Test.YtllfbfkjbhpfeaaGreatDoorCb
import Derived.Test.YtllfbfkjbhpfeaaGreatDoorCa
import Derived.Test.YtllfbfkjbhpfeaaGreatDoorSe
set_option linter.unusedSimpArgs false
set_option linter.unusedVariables false
set_option linter.unusedSectionVars false
set_option linter.unusedSimpArgs false
set_option linter.unusedVariables false
namespace Go.Dm.Ext
open Go Go.Dm Go.Proofs Go.Extern
/-- reflectlite.TypeOf of an Errno, and Comparable of what comes of it: 29 is Errno, 199 is rtype, 5 the number of the package-level variables. -/
def typeOfP (args : List V) (os : Objs) : Option (V × Objs) :=
  match args with
  | [.iface t (.int .i64 _)] => if t = 29 then some (.iface 199 (.agg [.gp 5 29]), os) else none
  | _ => none
def comparableP (args : List V) (os : Objs) : Option (V × Objs) :=
  match args with
  | [.agg [.gp g t]] => if g = 5 ∧ t = 29 then some (.bool true, os) else none
  | _ => none
def comp : Array Value → Sem Value := ReflectliteType.method fun t => do Extern.Rtype.noPackHeld "Comparable" t; pure (.bool (← typeInfo t).comparable)
theorem typeOf29 (v : Value) (w : World) : (ReflectliteType.typeOf #[.iface 29 v]).run Tryz.prog w = .ok (.iface 199 (.agg #[.pointer (some ⟨5, 29, none⟩)])) w := by kernel_rfl
theorem comp29 (w : World) : (comp #[.agg #[.pointer (some ⟨5, 29, none⟩)]]).run Tryz.prog w = .ok (.bool true) w := by kernel_rfl
theorem call86 (args : Array Value) (w : World) : (callFunc 86 args).run Tryz.prog w = ((ReflectliteType.typeOf args).run Tryz.prog w).andThen fun v w' => .ok (.value v) w' :=
  run_callFunc_extern Tryz.func86 (by kernel_rfl) (by kernel_rfl) (by kernel_rfl) (by kernel_rfl) args w
theorem call212 (args : Array Value) (w : World) : (callFunc 212 args).run Tryz.prog w = ((comp args).run Tryz.prog w).andThen fun v w' => .ok (.value v) w' :=
  run_callFunc_extern Tryz.func212 (by kernel_rfl) (by kernel_rfl) (by kernel_rfl) (by kernel_rfl) args w
theorem one1_inv {ρ : Rho} {w : World} {I : Nat → Prop} {l : List Value} {v : V} (h : RL w I ρ l [v]) : ∃ u, l = [u] ∧ R w I ρ u v := by
  cases l with
  | nil => cases h.length
  | cons u r => cases r with
    | nil => exact ⟨u, rfl, h⟩
    | cons => exact absurd h.length (by simp)
theorem typeOf_snd {args : List V} {os os' : Objs} {r : V} (h : typeOfP args os = some (r, os')) {w : World} {O I : Nat → Prop} {ρ : Rho} {cargs : Array Value}
    (hR : Rel w O I I ρ (getO os) (· < os.length) w) (hA : RL w I ρ cargs.toList args) (hO : Once os) :
    Once os' ∧ CallsX Tryz.prog 86 cargs w fun e w' => ∃ rv I' ρ', e = .returned rv ∧ R w' I' ρ' rv r ∧
      Rel w O I I' ρ' (getO os') (fun j => j < os.length ∨ (getO os' j).isSome = true) w' ∧ (∀ i p, i < os.length → ρ i = some p → ρ' i = some p) := by
  unfold typeOfP at h
  split at h
  case h_2 => cases h
  split at h
  case isFalse => cases h
  rename_i n ht
  subst ht
  cases h
  obtain ⟨u, hu, hu2⟩ := one1_inv hA
  obtain ⟨x, rfl, _⟩ := inv_iface hu2
  have hc : cargs = #[.iface 29 x] := by
    rw [← Array.toArray_toList (xs := cargs), hu]
  subst hc
  refine ⟨hO, .inr ⟨_, w, by rw [call86, typeOf29]; rfl, _, I, ρ, rfl, ?_, ?_, fun i p _ h => h⟩⟩
  · exact RL.iface 199 _ _ (RL.agg #[.pointer (some ⟨5, 29, none⟩)] [.gp 5 29] (fun y hy => by simp at hy; subst hy; rfl) (RL.gp 5 29 RL.nil) RL.nil) RL.nil
  · exact ⟨hR.os, hR.tape, hR.output, hR.size, hR.frame, hR.csz, hR.ilt, hR.isub, fun h p hp => .inl (hR.dom h p hp), hR.obj, hR.inj⟩
theorem comp_snd {args : List V} {os os' : Objs} {r : V} (h : comparableP args os = some (r, os')) {w : World} {O I : Nat → Prop} {ρ : Rho} {cargs : Array Value}
    (hR : Rel w O I I ρ (getO os) (· < os.length) w) (hA : RL w I ρ cargs.toList args) (hO : Once os) :
    Once os' ∧ CallsX Tryz.prog 212 cargs w fun e w' => ∃ rv I' ρ', e = .returned rv ∧ R w' I' ρ' rv r ∧
      Rel w O I I' ρ' (getO os') (fun j => j < os.length ∨ (getO os' j).isSome = true) w' ∧ (∀ i p, i < os.length → ρ i = some p → ρ' i = some p) := by
  unfold comparableP at h
  split at h
  case h_2 => cases h
  split at h
  case isFalse => cases h
  rename_i n ht
  obtain ⟨rfl, rfl⟩ := ht
  cases h
  obtain ⟨u, hu, hu2⟩ := one1_inv hA
  have hx : u = .agg #[.pointer (some ⟨5, 29, none⟩)] := by
    cases hu2 with
    | agg a ys h0 h1 h2 =>
      obtain ⟨u, hu, hu2⟩ := one1_inv h1
      cases hu2
      rw [← Array.toArray_toList (xs := a), hu]
  subst hx
  have hc : cargs = #[.agg #[.pointer (some ⟨5, 29, none⟩)]] := by
    rw [← Array.toArray_toList (xs := cargs), hu]
  subst hc
  refine ⟨hO, .inr ⟨_, w, by rw [call212, comp29]; rfl, _, I, ρ, rfl, ?_, ?_, fun i p _ h => h⟩⟩
  · exact RL.bool true RL.nil
  · exact ⟨hR.os, hR.tape, hR.output, hR.size, hR.frame, hR.csz, hR.ilt, hR.isub, fun h p hp => .inl (hR.dom h p hp), hR.obj, hR.inj⟩
end Go.Dm.Ext
set_option linter.unusedVariables false
namespace Go.Dm.T
open Go.Dm

def glT (g : Nat) : Option (List V) :=
  if g = g_sha_constants then some (wordsV [1116352408, 1899447441, 3049323471, 3921009573, 961987163, 1508970993, 2453635748, 2870763221, 3624381080, 310598401, 607225278, 1426881987, 1925078388, 2162078206, 2614888103, 3248222580, 3835390401, 4022224774, 264347078, 604807628, 770255983, 1249150122, 1555081692, 1996064986, 2554220882, 2821834349, 2952996808, 3210313671, 3336571891, 3584528711, 113926993, 338241895, 666307205, 773529912, 1294757372, 1396182291, 1695183700, 1986661051, 2177026350, 2456956037, 2730485921, 2820302411, 3259730800, 3345764771, 3516065817, 3600352804, 4094571909, 275423344, 430227734, 506948616, 659060556, 883997877, 958139571, 1322822218, 1537002063, 1747873779, 1955562222, 2024104815, 2227730452, 2361852424, 2428436474, 2756734187, 3204031479, 3329325298])
  else if g = g_strconv_uint64pow10 then some ((List.range 20).map fun i => .int .u64 ((10 ^ i : Nat) : Int))
  else none
end Go.Dm.T
namespace Go.Dm.T
open Go.Dm
def unb : List V → Option (List UInt8)
  | [] => some []
  | .int .u8 n :: r => if 0 ≤ n ∧ n < 256 then (unb r).map (UInt8.ofNat n.toNat :: ·) else none
  | _ => none
def unw : List V → Option (List UInt32)
  | [] => some []
  | .int .u32 n :: r => if 0 ≤ n ∧ n < 4294967296 then (unw r).map (UInt32.ofNat n.toNat :: ·) else none
  | _ => none
def D0 : DProg := ⟨fnT, glT, fun _ => none⟩
def primT (f : Nat) : Option (List V → Objs → Option (V × Objs)) :=
  if f = n_cache_Replay_See then some (seeRun (callN D0 20) D0.lend glT) else if f = n_reflectlite_TypeOf then some Ext.typeOfP else if f = n_reflectlite_rtype_Comparable then some Ext.comparableP else none
def DT : DProg := ⟨fnT, glT, primT⟩
def encP (args : List V) (os : Objs) : Option (V × Objs) :=
  match args, os with
  | [.sl k 1, .sl b 1], [] => match unb k, unb b with
    | some k, some b => if k.length = 16 ∧ b.length = 16 then some (.tup [.hs 0 0 16, .int .i64 0], [(0, .row (bytesV (encS k b)) 1)]) else none
    | _, _ => none
  | _, _ => none
def decP (args : List V) (os : Objs) : Option (V × Objs) :=
  match args, os with
  | [.sl k 1, .sl b 1], [] => match unb k, unb b with
    | some k, some b => if k.length = 16 ∧ b.length = 16 then some (.tup [.hs 0 0 16, .int .i64 0], [(0, .row (bytesV (decS k b)) 1)]) else none
    | _, _ => none
  | _, _ => none
def blockP (args : List V) (os : Objs) : Option (V × Objs) :=
  match args, os with
  | [.agg s, .agg b], [] => match unw s, unb b with
    | some s, some b => if s.length = 8 ∧ b.length = 64 then some (.agg (wordsV (blockS s b)), []) else none
    | _, _ => none
  | _, _ => none
def padP (args : List V) (os : Objs) : Option (V × Objs) :=
  match args, os with
  | [.sl k 1, .int .u8 x], [] => match unb k with
    | some k => if k.length ≤ 64 ∧ 0 ≤ x ∧ x < 256 then some (.hs 0 0 64, [(0, .row (bytesV (paddedS k (UInt8.ofNat x.toNat))) 1)]) else none
    | _ => none
  | _, _ => none
def hotT (f : Nat) : Option (List V → Objs → Option (V × Objs)) :=
  if f = n_sha_Block then some blockP else if f = n_mac_padded then some padP else if f = n_aes_Encrypt then some encP else if f = n_aes_Decrypt then some decP else none

mutual
def veq : V → V → Bool
  | .undef, .undef => true
  | .bool a, .bool b => a == b
  | .int k a, .int k' b => decide (k = k') && a == b
  | .str a, .str b => a == b
  | .nilp, .nilp => true
  | .nils, .nils => true
  | .nilm, .nilm => true
  | .nili, .nili => true
  | .nilf, .nilf => true
  | .iface t v, .iface u w => t == u && veq v w
  | .agg a, .agg b => veqL a b
  | .tup a, .tup b => veqL a b
  | .sl a s, .sl b t => s == t && veqL a b
  | .hs a b c, .hs d e f => a == d && b == e && c == f
  | .hp a b c, .hp d e f => a == d && b == e && c == f
  | .hm a, .hm b => a == b
  | _, _ => false
def veqL : List V → List V → Bool
  | [], [] => true
  | a :: r, b :: s => veq a b && veqL r s
  | _, _ => false
end
mutual
theorem veq_eq : ∀ a b, veq a b = true → a = b
  | .undef, b, h => by cases b <;> simp [veq] at h ⊢
  | .bool a, b, h => by cases b <;> simp [veq] at h ⊢; exact h
  | .int k a, b, h => by cases b <;> simp [veq] at h ⊢; exact h
  | .str a, b, h => by cases b <;> simp [veq] at h ⊢; exact h
  | .nilp, b, h => by cases b <;> simp [veq] at h ⊢
  | .nils, b, h => by cases b <;> simp [veq] at h ⊢
  | .nilm, b, h => by cases b <;> simp [veq] at h ⊢
  | .nili, b, h => by cases b <;> simp [veq] at h ⊢
  | .nilf, b, h => by cases b <;> simp [veq] at h ⊢
  | .iface t v, b, h => by cases b <;> simp [veq] at h ⊢; exact ⟨h.1, veq_eq _ _ h.2⟩
  | .agg a, b, h => by cases b <;> simp [veq] at h ⊢; exact veqL_eq _ _ h
  | .tup a, b, h => by cases b <;> simp [veq] at h ⊢; exact veqL_eq _ _ h
  | .sl a s, b, h => by cases b <;> simp [veq] at h ⊢; exact ⟨veqL_eq _ _ h.2, h.1⟩
  | .pt a, b, h => by cases b <;> simp [veq] at h
  | .hs a b c, d, h => by cases d <;> simp [veq] at h ⊢; exact ⟨h.1.1, h.1.2, h.2⟩
  | .hp a b c, d, h => by cases d <;> simp [veq] at h ⊢; exact ⟨h.1.1, h.1.2, h.2⟩
  | .hm a, b, h => by cases b <;> simp [veq] at h ⊢; exact h
  | .gp a b, c, h => by cases c <;> simp [veq] at h
  | .fn a b, c, h => by cases c <;> simp [veq] at h
theorem veqL_eq : ∀ a b, veqL a b = true → a = b
  | [], b, h => by cases b <;> simp [veqL] at h ⊢
  | a :: r, b, h => by cases b <;> simp [veqL] at h ⊢; exact ⟨veq_eq _ _ h.1, veqL_eq _ _ h.2⟩
end
structure Memo where
  f : Nat
  args : List V
  r : V
  os : Objs
def memoP (M : List Memo) (f : Nat) (args : List V) (os : Objs) : Option (V × Objs) :=
  match os with
  | [] => (M.find? fun m => m.f == f && veqL m.args args).map fun m => (m.r, m.os)
  | _ => none
def hotM (M : List Memo) (f : Nat) : Option (List V → Objs → Option (V × Objs)) :=
  if M.any (fun m => m.f == f) then some (memoP M f) else hotT f
theorem hotM_ok {M : List Memo} {K : Nat} (h0 : HotOk hotT DT K) (h : ∀ m ∈ M, callN DT K m.f m.args [] = some (m.r, m.os)) : HotOk (hotM M) DT K := by
  intro f p hp args os r hr
  unfold hotM at hp
  split at hp
  · cases hp
    unfold memoP at hr
    split at hr
    · obtain ⟨m, hm, rfl⟩ := Option.map_eq_some_iff.1 hr
      have h1 := List.mem_of_find?_eq_some hm
      have h2 := List.find?_some hm
      simp only [Bool.and_eq_true, beq_iff_eq] at h2
      have := h m h1
      rw [h2.1, veqL_eq _ _ h2.2] at this
      exact this
    · cases hr
  · exact h0 f p hp args os r hr
theorem hotOk_le {H : Nat → Option (List V → Objs → Option (V × Objs))} {K K' : Nat} (h : HotOk H DT K) (hk : K ≤ K') : HotOk H DT K' :=
  fun f p hp args os r hr => callN_le DT hk _ _ _ _ (h f p hp args os r hr)

theorem unb_eq : ∀ (l : List V) (m : List UInt8), unb l = some m → l = bytesV m
  | [], m, h => by simp [unb] at h; subst h; rfl
  | v :: r, m, h => by
    unfold unb at h
    split at h
    · rename_i e; cases e
    · rename_i n r' e
      cases e
      split at h
      · rename_i hn
        obtain ⟨m', hm, rfl⟩ := Option.map_eq_some_iff.1 h
        rw [unb_eq r m' hm]
        simp only [bytesV, List.map_cons, List.cons.injEq, and_true, V.int.injEq, true_and]
        simp only [UInt8.toNat_ofNat']
        omega
      · cases h
    · cases h
theorem unw_eq : ∀ (l : List V) (m : List UInt32), unw l = some m → l = wordsV m
  | [], m, h => by simp [unw] at h; subst h; rfl
  | v :: r, m, h => by
    unfold unw at h
    split at h
    · rename_i e; cases e
    · rename_i n r' e
      cases e
      split at h
      · rename_i hn
        obtain ⟨m', hm, rfl⟩ := Option.map_eq_some_iff.1 h
        rw [unw_eq r m' hm]
        simp only [wordsV, List.map_cons, List.cons.injEq, and_true, V.int.injEq, true_and]
        simp only [UInt32.toNat_ofNat']
        omega
      · cases h
    · cases h
theorem DT_fn : ∀ f F, fnT f = some F → DT.fn f = some F := fun _ _ h => h
theorem DT_K : DT.gl g_sha_constants = some (wordsV shaK) := by kernel_rfl
theorem hotT_ok : HotOk hotT DT 5 := by
  intro f p hp args os r hr
  unfold hotT at hp
  split at hp
  · rename_i e; subst e; cases hp
    unfold blockP at hr
    split at hr
    · split at hr
      · rename_i s' b' h1 h2
        split at hr
        · rename_i hl
          cases hr
          rw [unw_eq _ _ h1, unb_eq _ _ h2]
          exact c_sha_Block DT DT_fn DT_K 1 _ _ hl.1 hl.2
        · cases hr
      · cases hr
    · cases hr
  split at hp
  · rename_i e; subst e; cases hp
    unfold padP at hr
    split at hr
    · rename_i k0 x0
      split at hr
      · rename_i k' h1
        split at hr
        · rename_i hl
          cases hr
          rw [unb_eq _ _ h1]
          have hx : x0 = ((UInt8.ofNat x0.toNat).toNat : Int) := by simp only [UInt8.toNat_ofNat']; omega
          have := c_mac_padded DT DT_fn 4 (.sl (bytesV k') 1) k' (UInt8.ofNat x0.toNat) (isB_sl _) hl.1
          rw [← hx] at this
          exact this
        · cases hr
      · cases hr
    · cases hr
  split at hp
  · rename_i e; subst e; cases hp
    unfold encP at hr
    split at hr
    · split at hr
      · rename_i k' b' h1 h2
        split at hr
        · rename_i hl
          cases hr
          rw [unb_eq _ _ h1, unb_eq _ _ h2]
          exact c_aes_Encrypt DT DT_fn 0 _ _ hl.1 hl.2
        · cases hr
      · cases hr
    · cases hr
  split at hp
  · rename_i e; subst e; cases hp
    unfold decP at hr
    split at hr
    · split at hr
      · rename_i k' b' h1 h2
        split at hr
        · rename_i hl
          cases hr
          rw [unb_eq _ _ h1, unb_eq _ _ h2]
          exact c_aes_Decrypt DT DT_fn 0 _ _ hl.1 hl.2
        · cases hr
      · cases hr
    · cases hr
  · cases hp
end Go.Dm.T
namespace Go.Dm.T
open Go.Dm
def mE1 : Memo := ⟨n_mac_Expand, [(.sl (bytesV [115, 101, 115, 115, 105, 111, 110, 35, 40, 45, 50, 55, 60, 65, 70, 75]) 1), (.str [101, 49, 49]), (.int .i64 16)], (.tup [(.hs 0 0 16), (.int .i64 0)]), [(0, (.row (bytesV [215, 55, 206, 80, 55, 134, 89, 233, 170, 231, 149, 192, 87, 178, 219, 141, 138, 222, 128, 11, 145, 179, 185, 13, 237, 247, 205, 7, 18, 78, 194, 213]) 1))]⟩
def mE2 : Memo := ⟨n_mac_Expand, [(.sl (bytesV [115, 101, 115, 115, 105, 111, 110, 35, 40, 45, 50, 55, 60, 65, 70, 75]) 1), (.str [105, 49, 49]), (.int .i64 16)], (.tup [(.hs 0 0 16), (.int .i64 0)]), [(0, (.row (bytesV [157, 104, 166, 207, 20, 14, 161, 94, 192, 65, 251, 138, 129, 27, 45, 24, 55, 177, 164, 24, 126, 149, 117, 180, 208, 250, 176, 221, 234, 102, 253, 8]) 1))]⟩
def mAsk : Memo := ⟨n_tgs_Ask, [(.agg [(.str [99]), (.str [107, 114, 98, 116, 103, 116]), (.sl (bytesV [115, 101, 115, 115, 105, 111, 110, 35, 40, 45, 50, 55, 60, 65, 70, 75]) 1), (.int .i64 0), (.int .i64 50), (.int .i64 90), (.int .i64 12)]), (.sl (bytesV [0, 0, 0, 0, 0, 0, 0, 0, 0, 0, 0, 0, 0, 0, 0, 0]) 1), (.agg [(.int .i64 0), (.str [115]), (.int .i64 0), (.int .i64 0), (.int .i64 0), (.int .i64 0)]), (.int .i64 5), (.int .i64 1)], (.tup [(.hs 0 0 180), (.int .i64 0)]), [(0, (.row (bytesV [1, 0, 57, 1, 0, 1, 99, 2, 0, 6, 107, 114, 98, 116, 103, 116, 3, 0, 8, 0, 0, 0, 0, 0, 0, 0, 0, 4, 0, 8, 0, 0, 0, 0, 0, 0, 0, 50, 5, 0, 8, 0, 0, 0, 0, 0, 0, 0, 90, 6, 0, 8, 0, 0, 0, 0, 0, 0, 0, 12, 2, 0, 58, 228, 213, 14, 162, 178, 239, 240, 140, 155, 117, 95, 36, 121, 243, 233, 26, 143, 178, 154, 44, 157, 67, 19, 13, 208, 67, 226, 34, 158, 234, 173, 161, 238, 158, 196, 173, 214, 43, 111, 123, 158, 206, 204, 198, 37, 102, 20, 2, 194, 104, 206, 7, 17, 209, 25, 210, 193, 59, 3, 0, 1, 115, 4, 0, 8, 0, 0, 0, 0, 0, 0, 0, 0, 5, 0, 8, 0, 0, 0, 0, 0, 0, 0, 0, 6, 0, 8, 0, 0, 0, 0, 0, 0, 0, 0, 7, 0, 8, 0, 0, 0, 0, 0, 0, 0, 0, 8, 0, 8, 0, 0, 0, 0, 0, 0, 0, 0]) 1))]⟩
def mOpen : Memo := ⟨n_seal_Open, [(.sl (bytesV [115, 101, 115, 115, 105, 111, 110, 35, 40, 45, 50, 55, 60, 65, 70, 75]) 1), (.int .i64 11), (.sl (bytesV [228, 213, 14, 162, 178, 239, 240, 140, 155, 117, 95, 36, 121, 243, 233, 26, 143, 178, 154, 44, 157, 67, 19, 13, 208, 67, 226, 34, 158, 234, 173, 161, 238, 158, 196, 173, 214, 43, 111, 123, 158, 206, 204, 198, 37, 102, 20, 2, 194, 104, 206, 7, 17, 209, 25, 210, 193, 59]) 1)], (.tup [(.hs 0 16 26), (.int .i64 0)]), [(0, (.row (bytesV [0, 0, 0, 0, 0, 0, 0, 0, 0, 0, 0, 0, 0, 0, 0, 0, 1, 0, 1, 99, 2, 0, 8, 0, 0, 0, 0, 0, 0, 0, 5, 3, 0, 8, 0, 0, 0, 0, 0, 0, 0, 1, 0, 0, 0, 0, 0, 0]) 1))]⟩
def mOpened : Memo := ⟨n_tgs_opened, [(.sl (bytesV [1, 0, 57, 1, 0, 1, 99, 2, 0, 6, 107, 114, 98, 116, 103, 116, 3, 0, 8, 0, 0, 0, 0, 0, 0, 0, 0, 4, 0, 8, 0, 0, 0, 0, 0, 0, 0, 50, 5, 0, 8, 0, 0, 0, 0, 0, 0, 0, 90, 6, 0, 8, 0, 0, 0, 0, 0, 0, 0, 12, 2, 0, 58, 228, 213, 14, 162, 178, 239, 240, 140, 155, 117, 95, 36, 121, 243, 233, 26, 143, 178, 154, 44, 157, 67, 19, 13, 208, 67, 226, 34, 158, 234, 173, 161, 238, 158, 196, 173, 214, 43, 111, 123, 158, 206, 204, 198, 37, 102, 20, 2, 194, 104, 206, 7, 17, 209, 25, 210, 193, 59, 3, 0, 1, 115, 4, 0, 8, 0, 0, 0, 0, 0, 0, 0, 0, 5, 0, 8, 0, 0, 0, 0, 0, 0, 0, 0, 6, 0, 8, 0, 0, 0, 0, 0, 0, 0, 0, 7, 0, 8, 0, 0, 0, 0, 0, 0, 0, 0, 8, 0, 8, 0, 0, 0, 0, 0, 0, 0, 0]) 1), (.sl (bytesV [115, 101, 115, 115, 105, 111, 110, 35, 40, 45, 50, 55, 60, 65, 70, 75]) 1)], (.tup [(.agg [(.str [99]), (.str [107, 114, 98, 116, 103, 116]), .nils, (.int .i64 0), (.int .i64 50), (.int .i64 90), (.int .i64 12), (.str [99]), (.int .i64 5), (.int .i64 1), (.int .i64 0), (.str [115]), (.int .i64 0), (.int .i64 0), (.int .i64 0), (.int .i64 0)]), .nili]), []⟩
end Go.Dm.T
