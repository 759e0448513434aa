/- The abstract machine's runs, and that a function that it translates is sound (callN_sound). -/
import Derived.Test.YtllfbfkjbhpfeaaGreatDoorDa
import Derived.Orders
set_option linter.unusedSimpArgs false
set_option linter.unusedVariables false
set_option linter.unusedSectionVars false
set_option linter.unusedSimpArgs false
set_option linter.unusedVariables false
set_option linter.unusedSectionVars false
namespace Go.Dm

section
variable {P : Program} {w0 w : World} {O I0 I : Nat → Prop} {ρ : Rho} {g : Nat → Option Obj} {used : Nat → Prop} {nm : Nat} {gl : Nat → Option (List V)} {a : Act} {env : Nat → V} {o : Oper} {eff : Eff} {eqs : List TypeId}

theorem arr1 {α : Type} {xs : Array α} {x : α} (h : xs.toList = [x]) : xs = #[x] := by cases xs; simp_all
theorem arr2 {α : Type} {xs : Array α} {x y : α} (h : xs.toList = [x, y]) : xs = #[x, y] := by cases xs; simp_all

theorem run_builtin {b : Builtin} {args : Array Operand} {ts : Array TypeId} (ho : o.op = .call { callee := .builtin b, args, argTypes := ts }) :
    (execOp a.eval o).run P w = (builtin b ts o.type (args.map fun | .const _ => true | _ => false) (args.map a.eval)).run P w := by
  simp [execOp, ho, resolve, invoke]
  rfl
theorem map1 {α β : Type} (f : α → β) (x : α) : #[x].map f = #[f x] := by simp
theorem map2 {α β : Type} (f : α → β) (x y : α) : #[x, y].map f = #[f x, f y] := by simp

variable (hR : Rel w0 O I0 I ρ g used w) (hn : ¬ used nm) (hE : EnvR w I ρ a env) (hG : GlR w I gl) (hts : EqTypes P eqs)
include hR hn hE hG hts

theorem op_len {args : Array Operand} {ts : Array TypeId} {d : DOp} (ho : o.op = .call { callee := .builtin .len, args, argTypes := ts }) (hc : cOp P eqs o.op = some d) (hst : step (evX env) g gl nm d = some eff) : DoneAt w0 O I0 g used nm w I ρ ((execOp a.eval o).run P w) eff := by
  rw [ho] at hc
  simp only [cOp] at hc
  split at hc
  · rename_i x t hx ht
    cases arr1 hx; cases arr1 ht
    have hex := run_builtin (P := P) (w := w) (a := a) ho
    rw [map1 a.eval] at hex
    split at hc
    · rename_i x' hu hx'
      cases hc
      simp only [step] at hst
      split at hst
      · rename_i l hl
        cases hst
        have hv := cX_sound hE hx'
        rw [hl] at hv
        exact done_val hR (by rw [hex]; exact run_v (snd_lenS hu hv)) (RL.int _ _ RL.nil)
      · cases hst
    · rename_i e x' hu hx'
      cases hc
      simp only [step] at hst
      split at hst
      · rename_i n hn'
        cases hst
        exact done_val hR (by rw [hex]; exact run_v (snd_lenL hu (cX_sound hE hx') hn')) (RL.int _ _ RL.nil)
      · cases hst
    · rename_i n e x' hu hx'
      cases hc
      simp only [step, Option.some.injEq] at hst
      subst hst
      refine done_val hR (v := .int .i64 (n : Int)) (by rw [hex]; exact run_v (by simp [Builtin.len_, run_underlying hu, goInt])) (RL.int _ _ RL.nil)
    · rename_i q e x' hu hx'
      cases hc
      simp only [step] at hst
      split at hst
      · rename_i n hn'
        cases hst
        exact done_val hR (by rw [hex]; exact run_v (snd_lenM hR hu (cX_sound hE hx') hn')) (RL.int _ _ RL.nil)
      · cases hst
    · cases hc
  · cases hc

theorem op_min {args : Array Operand} {ts : Array TypeId} {d : DOp} (ho : o.op = .call { callee := .builtin .min, args, argTypes := ts }) (hc : cOp P eqs o.op = some d) (hst : step (evX env) g gl nm d = some eff) : DoneAt w0 O I0 g used nm w I ρ ((execOp a.eval o).run P w) eff := by
  rw [ho] at hc
  simp only [cOp] at hc
  split at hc
  · rename_i x y hx
    cases arr2 hx
    have hex := run_builtin (P := P) (w := w) (a := a) ho
    split at hc
    · rename_i x' y' h1 h2
      cases hc
      simp only [step] at hst
      split at hst
      · rename_i k m k' m' e1 e2
        cases hst
        have i1 := int_of hR hn hE hG hts h1 e1
        have i2 := int_of hR hn hE hG hts h2 e2
        refine done_val hR (v := .int k (if m' < m then m' else m)) (by rw [hex]; exact run_v (by simp [Builtin.min_, i1, i2, List.foldlM, Builtin.min2])) (RL.int _ _ RL.nil)
      · cases hst
    · cases hc
  · cases hc

theorem op_max {args : Array Operand} {ts : Array TypeId} {d : DOp} (ho : o.op = .call { callee := .builtin .max, args, argTypes := ts }) (hc : cOp P eqs o.op = some d) (hst : step (evX env) g gl nm d = some eff) : DoneAt w0 O I0 g used nm w I ρ ((execOp a.eval o).run P w) eff := by
  rw [ho] at hc
  simp only [cOp] at hc
  split at hc
  · rename_i x y hx
    cases arr2 hx
    have hex := run_builtin (P := P) (w := w) (a := a) ho
    split at hc
    · rename_i x' y' h1 h2
      cases hc
      simp only [step] at hst
      split at hst
      · rename_i k m k' m' e1 e2
        cases hst
        have i1 := int_of hR hn hE hG hts h1 e1
        have i2 := int_of hR hn hE hG hts h2 e2
        refine done_val hR (v := .int k (if m < m' then m' else m)) (by rw [hex]; exact run_v (by simp [Builtin.max_, i1, i2, List.foldlM, Builtin.max2])) (RL.int _ _ RL.nil)
      · cases hst
    · cases hc
  · cases hc

theorem op_append {args : Array Operand} {ts : Array TypeId} {d : DOp} (ho : o.op = .call { callee := .builtin .append, args, argTypes := ts }) (hc : cOp P eqs o.op = some d) (hst : step (evX env) g gl nm d = some eff) : DoneAt w0 O I0 g used nm w I ρ ((execOp a.eval o).run P w) eff := by
  rw [ho] at hc
  simp only [cOp] at hc
  split at hc
  · rename_i x y t u hx ht
    cases arr2 hx; cases arr2 ht
    have hex := run_builtin (P := P) (w := w) (a := a) ho
    rw [map2 a.eval] at hex
    have fin : ∀ {s b : Nat} {zv : Value} {e : TypeId} {i : TypeInfo} {p : V} {ys : List V} {news : List Value}, i.size = s → i.bytes = b → 0 < s → 0 < b → zv.cells.size = s → R w I ρ (a.eval x) p →
        AppSrc P w t u o.type e (a.eval y) ys.length s b zv news → RL w I rho0 news (cellsL ys) → (∀ e ∈ ys, e.width = s) → flatL (cellsL ys) → appV g s b nm p ys = some eff →
        DoneAt w0 O I0 g used nm w I ρ ((execOp a.eval o).run P w) eff := by
      intro s b zv e i p ys news hi hb h0 hb0 hzs hv hsrc hnews hw hf happ
      have hcap : ∀ h off len, p = .hs h off len → (len + ys.length) ≤ 9223372036854775807 := by
        intro h off len hp
        rw [hp] at happ
        unfold appV at happ
        simp only at happ
        split at happ
        · split at happ
          · rename_i hh
            have := Nat.le_trans (Nat.le_mul_of_pos_right (len + ys.length) hb0) hh.2.2.2
            unfold roomBytes at this
            omega
          · cases happ
        · cases happ
      rw [hex]
      exact done_leaves (P := P) (s := Builtin.append_ #[t, u] o.type #[a.eval x, a.eval y]) (snd_app hR hn hi hb hzs h0 hv hsrc hnews hw hf (.inl hb0) happ hcap)
    split at hc
    · rename_i e e' x' y' hu1 hu2 h1 h2
      split at hc
      · rename_i s b zv hi
        split at hc
        · rename_i hh
          obtain ⟨h0, hb0, hzs⟩ := hh
          cases hc
          simp only [step] at hst
          split at hst
          · rename_i ys hys
            obtain ⟨i, i1, i2, i3, i4⟩ := infT_some hi
            obtain ⟨ad, cap, cs, hva, g1, g2, g3, g4⟩ := viewL_sound hys (cX_sound hE h2) hR
            have hnl : cs.length = ys.length * s := by rw [g3.length, cellsL_length g1]
            have hsrc := appSrc_slice (w := w) (u := u) (t := t) (ty := o.type) (cap := cap) (a := ad) (news := cs) (m := ys.length) hu1 hu2 i1 i4 (by rw [i2]; exact hnl)
              (g4.elim (fun h => .inl (by simp [h])) (fun h => .inr h))
            rw [i2, i3, ← hva] at hsrc
            exact fin i2 i3 h0 hb0 hzs (cX_sound hE h1) hsrc g3 g1 g2 hst
          · cases hst
        · cases hc
      · cases hc
    · rename_i e x' y' hu1 hu2 h1 h2
      split at hc
      · rename_i s b zv hi
        split at hc
        · rename_i hh
          obtain ⟨hs1, hb0, hzs⟩ := hh
          cases hc
          simp only [step] at hst
          split at hst
          · rename_i l hl
            obtain ⟨i, i1, i2, i3, i4⟩ := infT_some hi
            have hv := cX_sound hE h2
            rw [hl] at hv
            have hva := inv_str hv
            have hsrc := appSrc_string (w := w) (u := u) (t := t) (ty := o.type) (l := l) hu1 hu2 i1 i4 (by rw [i2]; exact hs1)
            rw [i2, i3, ← hva] at hsrc
            have hbl : l.length = (bytesV l).length := by simp [bytesV]
            rw [hbl] at hsrc
            subst hs1
            exact fin i2 i3 (by omega) hb0 hzs (cX_sound hE h1) hsrc (by rw [bytesV_cells]; exact bytesV_R _ _ _ l) (bytesV_width l) (by rw [bytesV_cells]; exact bytesV_flat l) hst
          · cases hst
        · cases hc
      · cases hc
    · rename_i e k x' y' hu1 hu2 h1 h2
      split at hc
      · rename_i s b zv z hi hz
        split at hc
        · rename_i hh
          obtain ⟨h0, hb0, hzs, hzw, hzst⟩ := hh
          cases hc
          simp only [step] at hst
          split at hst
          · rename_i k' n hk
            split at hst
            · rename_i hh
              obtain ⟨hn0, hroom⟩ := hh
              obtain ⟨i, i1, i2, i3, i4⟩ := infT_some hi
              obtain ⟨i', z', g1, g2, g3⟩ := zeroE_some hz
              rw [i1] at g1; cases g1
              rw [i4] at g2; cases g2
              have hva := int_of hR hn hE hG hts h2 hk
              obtain ⟨m, rfl⟩ := Int.eq_ofNat_of_zero_le hn0
              simp only [Int.toNat_natCast] at hroom hst
              have h63 : m ≤ 9223372036854775807 := by
                have := Nat.le_trans (Nat.le_mul_of_pos_right m hb0) hroom
                unfold roomBytes at this
                omega
              have hsrc := appSrc_zeros (w := w) (u := u) (t := t) (ty := o.type) (kq := k') (m := m) hu1 hu2 i1 i4 (by rw [i2]; exact hzs) (by rw [i2]; exact h0) (by rw [i3]; exact hroom) h63
              rw [i2, i3] at hsrc
              have hva' : a.eval y = .int k' (m : Int) := hva
              rw [← hva'] at hsrc
              have hml : m = (List.replicate m z).length := by simp
              rw [hml] at hsrc
              obtain ⟨c1, c2⟩ := R_cells (g3 w I rho0) hzst
              refine fin i2 i3 h0 hb0 hzs (cX_sound hE h1) hsrc ?_ (fun x hx => by rw [List.eq_of_mem_replicate hx]; exact hzw) (flatL_replicate c2 m) hst
              rw [List.length_replicate]
              exact RL_replicate c1 m
            · cases hst
          · cases hst
        · cases hc
      · cases hc
    · cases hc
  · cases hc

theorem op_copy {args : Array Operand} {ts : Array TypeId} {d : DOp} (ho : o.op = .call { callee := .builtin .copy, args, argTypes := ts }) (hc : cOp P eqs o.op = some d) (hst : step (evX env) g gl nm d = some eff) : DoneAt w0 O I0 g used nm w I ρ ((execOp a.eval o).run P w) eff := by
  rw [ho] at hc
  simp only [cOp] at hc
  split at hc
  · rename_i x y t u hx ht
    cases arr2 hx; cases arr2 ht
    have hex := run_builtin (P := P) (w := w) (a := a) ho
    rw [map2 a.eval] at hex
    split at hc
    · rename_i e e' x' y' hu1 hu2 h1 h2
      split at hc
      · rename_i s hs
        split at hc
        · rename_i h0
          cases hc
          simp only [step] at hst
          split at hst
          · rename_i ys hys
            obtain ⟨cv, w', e1, e2, e3, e4, e5⟩ := snd_cpy (P := P) (e' := e') (u := u) (ty := o.type) (nm := nm) hR hu1 hs h0 (cX_sound hE h1) (cX_sound hE h2) hys hst
            exact ⟨_, cv, w', I, ρ, by rw [hex]; exact run_v e1, .inl rfl, e2, e3.more _, e4⟩
          · cases hst
        · cases hc
      · cases hc
    · cases hc
  · cases hc

theorem op_makeMap {t : TypeId} {r : Option Operand} {d : DOp} (ho : o.op = .makeMap t r) (hc : cOp P eqs o.op = some d) (hst : step (evX env) g gl nm d = some eff) : DoneAt w0 O I0 g used nm w I ρ ((execOp a.eval o).run P w) eff := by
  rw [ho] at hc
  cases r with
  | some r => simp [cOp] at hc
  | none =>
    simp only [cOp, Option.some.injEq] at hc
    subst hc
    simp only [step, Option.some.injEq] at hst
    subst hst
    have := done_leaves (P := P) (nm := nm) (g := g) (used := used) (O := O) (I0 := I0) (w0 := w0) (eff := ⟨.hm nm, some (.mp []), []⟩) (s := Instr.makeMap t none) (snd_mkmap hR hn)
    simpa only [execOp, ho, Option.map_none] using this
theorem op_lookup {t : TypeId} {x k : Operand} {ok : Bool} {d : DOp} (ho : o.op = .lookup t x k ok) (hc : cOp P eqs o.op = some d) (hst : step (evX env) g gl nm d = some eff) : DoneAt w0 O I0 g used nm w I ρ ((execOp a.eval o).run P w) eff := by
  rw [ho] at hc
  simp only [cOp] at hc
  split at hc
  · rename_i q e hu
    split at hc
    · rename_i kd z x' k' h1 h2 h3 h4
      cases hc
      simp only [step] at hst
      obtain ⟨r, hr, rfl⟩ := Option.map_eq_some_iff.1 hst
      obtain ⟨v, hv, hvr⟩ := snd_look (ok := ok) hR hu h1 h2 (cX_sound hE h3) (cX_sound hE h4) hr
      exact done_val hR (by simp only [execOp, ho]; exact run_v hv) hvr
    · cases hc
  · cases hc
theorem op_mapUpdate {t : TypeId} {m k x : Operand} {d : DOp} (ho : o.op = .mapUpdate t m k x) (hc : cOp P eqs o.op = some d) (hst : step (evX env) g gl nm d = some eff) : DoneAt w0 O I0 g used nm w I ρ ((execOp a.eval o).run P w) eff := by
  rw [ho] at hc
  simp only [cOp] at hc
  split at hc
  · rename_i q e hu
    split at hc
    · rename_i kd n m' k' x' h1 h2 h3 h4 h5
      cases hc
      simp only [step] at hst
      split at hst
      · rename_i h hm
        split at hst
        · rename_i es y ks hg hd
          split at hst
          · rename_i hh
            obtain ⟨hw, hkk, hks⟩ := hh
            obtain ⟨es', hp, rfl⟩ := Option.map_eq_some_iff.1 hst
            have i1 := cX_sound hE h3
            rw [hm] at i1
            obtain ⟨w', I', e1, e2, e3⟩ := snd_mset hR hu h1 i1 (cX_sound hE h4) (cX_sound hE h5) hg hd hkk (by simpa using hks) hp
            exact ⟨.skip, Go.undef, w', I', ρ, by simp only [execOp, ho, Sem.run_bind, e1, Result.andThen_ok, Sem.run_pure], .inr ⟨rfl, rfl⟩, RL.undef _ RL.nil, e2.more _, e3⟩
          · cases hst
        · cases hst
      · cases hst
    · cases hc
  · cases hc
theorem op_s2ap {t : TypeId} {x : Operand} {d : DOp} (ho : o.op = .sliceToArrayPointer t x) (hc : cOp P eqs o.op = some d) (hst : step (evX env) g gl nm d = some eff) : DoneAt w0 O I0 g used nm w I ρ ((execOp a.eval o).run P w) eff := by
  rw [ho] at hc
  simp only [cOp] at hc
  split at hc
  · rename_i n e x' hu h1
    cases hc
    simp only [step] at hst
    obtain ⟨r, hr, rfl⟩ := Option.map_eq_some_iff.1 hst
    obtain ⟨v, hv, hvr⟩ := snd_s2ap (P := P) hu (cX_sound hE h1) hr
    exact done_val hR (by simp only [execOp, ho]; exact run_v hv) hvr
  · cases hc
theorem op_typeAssert {x : Operand} {t asserted : TypeId} {ok : Bool} {d : DOp} (ho : o.op = .typeAssert x t asserted ok) (hc : cOp P eqs o.op = some d) (hst : step (evX env) g gl nm d = some eff) : DoneAt w0 O I0 g used nm w I ρ ((execOp a.eval o).run P w) eff := by
  rw [ho] at hc
  simp only [cOp] at hc
  split at hc
  · rename_i want z x' hu hz h1
    cases hc
    simp only [step] at hst
    obtain ⟨r, hr, rfl⟩ := Option.map_eq_some_iff.1 hst
    obtain ⟨v, hv, hvr⟩ := snd_asrtI (t := t) hu hz (cX_sound hE h1) hr
    exact done_val hR (by simp only [execOp, ho]; exact run_v hv) hvr
  · rename_i dd z x' hni hu hz h1
    cases hc
    simp only [step] at hst
    obtain ⟨r, hr, rfl⟩ := Option.map_eq_some_iff.1 hst
    obtain ⟨v, hv, hvr⟩ := snd_asrtC (t := t) hu (fun want h => by subst h; exact absurd rfl (hni _)) hz (cX_sound hE h1) hr
    exact done_val hR (by simp only [execOp, ho]; exact run_v hv) hvr
  · cases hc

/-- ONE OPERATION: what the abstract machine tells is what the world does. -/
theorem cOp_sound {d : DOp} (hc : cOp P eqs o.op = some d) (hst : step (evX env) g gl nm d = some eff) : DoneAt w0 O I0 g used nm w I ρ ((execOp a.eval o).run P w) eff := by
  cases ho : o.op with
  | move x => exact op_move hR hn hE hG hts ho hc hst
  | assign x => exact op_assign hR hn hE hG hts ho hc hst
  | pick c x y => exact op_pick hR hn hE hG hts ho hc hst
  | alloc e => exact op_alloc hR hn hE hG hts ho hc hst
  | box e v => exact op_box hR hn hE hG hts ho hc hst
  | build t ps => exact op_build hR hn hE hG hts ho hc hst
  | buildSlice t n ps => exact op_buildSlice hR hn hE hG hts ho hc hst
  | load t x => exact op_load hR hn hE hG hts ho hc hst
  | store t x v => exact op_store hR hn hE hG hts ho hc hst
  | nilCheck x => exact op_nilCheck hR hn hE hG hts ho hc hst
  | binOp op t x y u => exact op_binOp hR hn hE hG hts ho hc hst
  | unOp op t x => exact op_unOp hR hn hE hG hts ho hc hst
  | convert t u x => exact op_convert hR hn hE hG hts ho hc hst
  | makeInterface t x => exact op_mki hR hn hE hG hts ho hc hst
  | makeSlice t l c => exact op_makeSlice hR hn hE hG hts ho hc hst
  | slice t x lo hi mx => exact op_slice hR hn hE hG hts ho hc hst
  | fieldAddr t x i => exact op_fieldAddr hR hn hE hG hts ho hc hst
  | field t x i => exact op_field hR hn hE hG hts ho hc hst
  | indexAddr t x i => exact op_indexAddr hR hn hE hG hts ho hc hst
  | index t x i => exact op_index hR hn hE hG hts ho hc hst
  | extract x i => exact op_extract hR hn hE hG hts ho hc hst
  | makeMap t r => exact op_makeMap hR hn hE hG hts ho hc hst
  | lookup t x k ok => exact op_lookup hR hn hE hG hts ho hc hst
  | mapUpdate t m k x => exact op_mapUpdate hR hn hE hG hts ho hc hst
  | sliceToArrayPointer t x => exact op_s2ap hR hn hE hG hts ho hc hst
  | typeAssert x t u ok => exact op_typeAssert hR hn hE hG hts ho hc hst
  | call c =>
    obtain ⟨callee, args, ts⟩ := c
    cases callee with
    | builtin b =>
      cases b with
      | len => exact op_len hR hn hE hG hts ho hc hst
      | min => exact op_min hR hn hE hG hts ho hc hst
      | max => exact op_max hR hn hE hG hts ho hc hst
      | append => exact op_append hR hn hE hG hts ho hc hst
      | copy => exact op_copy hR hn hE hG hts ho hc hst
      | _ => rw [ho] at hc; simp [cOp] at hc
    | _ => rw [ho] at hc; simp [cOp] at hc
  | _ => rw [ho] at hc; simp [cOp] at hc
end
end Go.Dm
namespace Go.Dm

/-! Objects by their names. -/
abbrev Objs := List (Nat × Obj)
def getO : Objs → Nat → Option Obj
  | [], _ => none
  | (k, o) :: r, h => if h = k then some o else getO r h
def delO : Objs → Nat → Objs
  | [], _ => []
  | (k, o) :: r, h => if h = k then delO r h else (k, o) :: delO r h
def putO : Objs → Nat → Obj → Objs
  | [], h, o => [(h, o)]
  | (k, o') :: r, h, o => if h = k then (k, o) :: r else (k, o') :: putO r h o
def updO (os : Objs) (h : Nat) : Option Obj → Objs
  | none => delO os h
  | some o => putO os h o
def updsO : List (Nat × Option Obj) → Objs → Objs
  | [], os => os
  | (h, o) :: r, os => updsO r (updO os h o)
def effO (os : Objs) (nm : Nat) (e : Eff) : Objs :=
  match e.new with
  | none => updsO e.upds os
  | some o => putO (updsO e.upds os) nm o

/-! The handles in a value. -/
def addN (ns : List Nat) (h : Nat) : List Nat := if ns.contains h then ns else ns ++ [h]
mutual
def hands (ns : List Nat) : V → List Nat
  | .iface _ v => hands ns v
  | .agg cs => handsL ns cs
  | .tup cs => handsL ns cs
  | .fn _ cs => handsL ns cs
  | .hs h _ _ => addN ns h
  | .hp h _ _ => addN ns h
  | .hm h => addN ns h
  | _ => ns
def handsL (ns : List Nat) : List V → List Nat
  | [] => ns
  | v :: r => handsL (hands ns v) r
end
def handsO (ns : List Nat) : Option Obj → List Nat
  | some (.box cs) => handsL ns cs
  | _ => ns
def hasAll (os : Objs) : List Nat → Bool
  | [] => true
  | h :: r => (getO os h).isSome && hasAll os r
/-- All that is reached, in the order in which it is met. -/
def reach (os : Objs) : Nat → Nat → List Nat → List Nat
  | 0, _, ns => ns
  | n + 1, i, ns => match ns[i]? with
    | none => ns
    | some h => reach os n (i + 1) (handsO ns (getO os h))

mutual
def ren (f : Nat → Option Nat) : V → Option V
  | .iface t v => (ren f v).map (.iface t)
  | .agg cs => (renL f cs).map .agg
  | .tup cs => (renL f cs).map .tup
  | .fn g cs => (renL f cs).map (.fn g)
  | .hs h o l => (f h).map fun h => .hs h o l
  | .hp h i k => (f h).map fun h => .hp h i k
  | .hm h => (f h).map .hm
  | v => some v
def renL (f : Nat → Option Nat) : List V → Option (List V)
  | [] => some []
  | v :: r => match ren f v, renL f r with
    | some x, some xs => some (x :: xs)
    | _, _ => none
end
def renO (f : Nat → Option Nat) : Obj → Option Obj
  | .box cs => (renL f cs).map .box
  | o => some o

/-- Free of memory that nobody writes. -/
def clean : V → Bool
  | .iface _ v => clean v
  | .agg cs => cleanL cs
  | .tup cs => cleanL cs
  | .fn _ cs => cleanL cs
  | .sl es _ => es.isEmpty
  | .pt _ => false
  | _ => true
where
  cleanL : List V → Bool
  | [] => true
  | v :: r => clean v && cleanL r
def cleanO : Obj → Bool
  | .box cs => clean.cleanL cs
  | .row es _ => clean.cleanL es
  | .mp es => clean.cleanL (mpL es)

def posN (h : Nat) : List Nat → Nat → Option Nat
  | [], _ => none
  | k :: r, i => if h = k then some i else posN h r (i + 1)

/-- The objects of the names ns, under their places from i on. -/
def packO (os : Objs) (f : Nat → Option Nat) : Nat → List Nat → Option Objs
  | _, [] => some []
  | i, h :: r => match getO os h, packO os f (i + 1) r with
    | some o, some x => (renO f o).map fun o => (i, o) :: x
    | none, some x => some x
    | _, none => none

def bfs : Nat := 64
/-- Values, and what they reach, under names from 0 on. -/
def pack (os : Objs) (vs : List V) : Option (List Nat × List V × Objs) :=
  let ns := reach os bfs 0 (handsL [] vs)
  match hasAll os ns, renL (posN · ns 0) vs, packO os (posN · ns 0) 0 ns with
  | true, some vs', some os' => some (ns, vs', os')
  | _, _, _ => none
/-- A result, and what it and the first k objects reach. -/
def packR (os : Objs) (k : Nat) (r : V) : Option (V × Objs) :=
  let ns := reach os bfs 0 (hands (List.range k) r)
  match hasAll os (ns.drop k), ren (posN · ns 0) r, packO os (posN · ns 0) 0 ns with
  | true, some r', some os' => some (r', os')
  | _, _, _ => none

inductive COp where
  | op (d : DOp)
  | call (f : Nat) (xs : List X)
  | callv (x : X) (xs : List X)
  | inv (tab : List (Nat × Nat)) (x : X) (xs : List X)
  deriving Inhabited

structure DO where
  dst : Option Nat
  op : COp
  guard : Option (Nat × Bool)
  src : Nat
  vis : List Nat
  conf : List Nat
  still : Bool
  deriving Inhabited

inductive DCode where
  | skip
  | seqr (ops : List DO)
  | drwr (ops : List DO)
  | seq (a b : DCode)
  | cond (x : X) (a b : DCode)
  | block (id : Nat) (c : DCode)
  | loop (live : List Nat) (c : DCode)
  | exit (id : Nat)
  | ret
  | frz (ts : List Nat) (c : DCode)
  deriving Inhabited

inductive DRes where
  | tmp (t : Nat)
  | cell (t n : Nat) (agg : Bool)
  deriving Inhabited

structure DFun where
  ntmps : Nat
  lend : List Bool
  results : List DRes
  body : DCode
  deriving Inhabited

structure St where
  env : List V
  objs : Objs
  nxt : Nat
  /-- So many objects came with the call: their names stay. -/
  kept : Nat
  deriving Inhabited

abbrev CallSem := Nat → List V → Objs → Option (V × Objs)

def evL (env : List V) : X → V
  | .t n => env.getD n .undef
  | .c v => v

section
variable (cs : CallSem) (lend : Nat → List Bool) (gl : Nat → Option (List V))

def lendA (g : Nat → Option Obj) : List Bool → List V → Option (List V × List Nat)
  | true :: bs, v :: r => match deep g 6 v, lendA g bs r with
    | some (x, k), some (xs, ks) => some (x :: xs, k ++ ks)
    | _, _ => none
  | false :: bs, v :: r => (lendA g bs r).map fun p => (v :: p.1, p.2)
  | _, vs => some (vs, [])

/-- Handles of a call, back as the caller's. -/
def backN (ns : List Nat) (nm stride : Nat) (i : Nat) : Option Nat := if i < ns.length then ns[i]? else some (nm + stride * (i - ns.length))

def gone (os2 : Objs) : Nat → List Nat → List (Nat × Option Obj)
  | _, [] => []
  | i, h :: r => match getO os2 i with
    | some _ => gone os2 (i + 1) r
    | none => (h, none) :: gone os2 (i + 1) r
def backO (f : Nat → Option Nat) : Objs → Option (List (Nat × Option Obj))
  | [] => some []
  | (i, o) :: r => match f i, renO f o, backO f r with
    | some h, some o', some x => some ((h, some o') :: x)
    | _, _, _ => none

def doCall (os : Objs) (nm stride f : Nat) (vs : List V) : Option Eff :=
  match lendA (getO os) (lend f) vs with
  | none => none
  | some (vs1, ks) => match pack os vs1 with
    | none => none
    | some (ns, vs2, os1) =>
      if ks.any (ns.contains ·) then none else
      match cs f vs2 os1 with
      | none => none
      | some (r, os2) => match ren (backN ns nm stride) r, backO (backN ns nm stride) os2 with
        | some r', some us => some ⟨r', none, us ++ gone os2 0 ns ++ (if ks.isEmpty || (clean r && os2.all (fun p => cleanO p.2)) then [] else kills ks)⟩
        | _, _ => none

def stepC (ev : X → V) (os : Objs) (nm stride : Nat) : COp → Option Eff
  | .op d => step ev (getO os) gl nm d
  | .call f xs => doCall cs lend os nm stride f (xs.map ev)
  | .callv x xs => match ev x with
    | .fn f caps => doCall cs lend os nm stride f (xs.map ev ++ caps)
    | _ => none
  | .inv tab x xs => match ev x with
    | .iface t v => (match tab.lookup t with
      | some f => doCall cs lend os nm stride f (v :: xs.map ev)
      | none => none)
    | _ => none

def wantD (env : List V) : Option (Nat × Bool) → Option Bool
  | none => some true
  | some (t, b) => match env.getD t .undef with
    | .bool c => some (c == b)
    | .tup [] => some false
    | _ => none

def putE (env : List V) (dst : Option Nat) (v : V) : List V :=
  match dst with
  | none => env
  | some d => env.set d v

/-- A name above b and all that an operation names. -/
def topK (b : Nat) : List (Nat × Option Obj) → Nat
  | [] => b
  | (k, _) :: r => topK (if k < b then b else k + 1) r

def runSeq (base n : Nat) : Nat → List DO → List V → Objs → Nat → Option (List V × Objs × Nat)
  | _, [], env, os, nx => some (env, os, nx)
  | j, o :: r, env, os, nx => match wantD env o.guard with
    | some true => (match stepC cs lend gl (evL env) os (base + j) n o.op with
      | some e => runSeq base n (j + 1) r (putE env o.dst e.v) (effO os (base + j) e) (topK nx e.upds)
      | none => none)
    | some false => runSeq base n (j + 1) r (putE env o.dst (.tup [])) os nx
    | none => none

/-- The objects that an operation sees: those ahead of the region, and what the operations ahead of it did. -/
def visO (base : Nat) (es : List Eff) : List Nat → Objs → Objs
  | [], os => os
  | i :: r, os => match es[i]? with
    | some e => visO base es r (effO os (base + i) e)
    | none => visO base es r os
def effKeys (e : Eff) : List Nat := e.upds.map (·.1)
def confO (es : List Eff) : List Nat → Objs → Objs
  | [], os => os
  | i :: r, os => match es[i]? with
    | some e => confO es r ((effKeys e).foldl delO os)
    | none => confO es r os

def runDrw (base n : Nat) (os0 : Objs) : Nat → List DO → List V → Objs → Nat → List Eff → Option (List V × Objs × Nat)
  | _, [], env, os, nx, _ => some (env, os, nx)
  | j, o :: r, env, os, nx, es => match wantD env o.guard with
    | some true => (match stepC cs lend gl (evL env) (confO es o.conf (visO base es o.vis os0)) (base + j) n o.op with
      | some e => if o.still && !e.upds.isEmpty then none else runDrw base n os0 (j + 1) r (putE env o.dst e.v) (effO os (base + j) e) (topK nx e.upds) (es ++ [e])
      | none => none)
    | some false => runDrw base n os0 (j + 1) r (putE env o.dst (.tup [])) os nx (es ++ [⟨.tup [], none, []⟩])
    | none => none

inductive Ex where
  | nrm
  | exit (id : Nat)
  | ret
  deriving Inhabited

def putL : List Nat → List V → List V → List V
  | t :: ts, v :: vs, env => putL ts vs (env.set t v)
  | _, _, env => env

/-- At a loop's head: what lives, under new names. -/
def canon (live : List Nat) (s : St) : Option St :=
  let vs := live.map fun t => s.env.getD t .undef
  let ns := reach s.objs bfs 0 (handsL (List.range s.kept) vs)
  match packO s.objs (posN · ns 0) 0 ns with
  | some os => some ⟨putL live (vs.map fun v => (ren (posN · ns 0) v).getD .undef) (List.replicate s.env.length .undef), os, ns.length, s.kept⟩
  | none => none

def loopN (f : St → Option (Ex × St)) (h : St → Option St) : Nat → St → Option (Ex × St)
  | 0, _ => none
  | n + 1, s => match h s with
    | none => none
    | some s' => match f s' with
      | some (.nrm, s2) => loopN f h n s2
      | r => r

/-! What a slice's handle reads, in its place: from here on nobody writes it. -/
mutual
def subV (h : Nat) (es : List V) (s : Nat) : V → V
  | .iface t v => .iface t (subV h es s v)
  | .agg cs => .agg (subL h es s cs)
  | .tup cs => .tup (subL h es s cs)
  | .fn g cs => .fn g (subL h es s cs)
  | .hs k o l => if k = h ∧ o + l ≤ es.length then .sl ((es.drop o).take l) s else .hs k o l
  | v => v
def subL (h : Nat) (es : List V) (s : Nat) : List V → List V
  | [] => []
  | v :: r => subV h es s v :: subL h es s r
end
def subO (h : Nat) (es : List V) (s : Nat) : Objs → Objs
  | [] => []
  | (k, .box cs) :: r => (k, .box (subL h es s cs)) :: subO h es s r
  | p :: r => p :: subO h es s r
def frz1 (s : St) (h : Nat) : St :=
  match getO s.objs h with
  | some (.row es k) => ⟨subL h es k s.env, subO h es k (delO s.objs h), s.nxt, s.kept⟩
  | _ => s
def frzT (s : St) (t : Nat) : St := (hands [] (s.env.getD t .undef)).foldl frz1 s

def loopFuel : Nat := 18446744073709551616

def exec : DCode → St → Option (Ex × St)
  | .skip, s => some (.nrm, s)
  | .seqr ops, s => (runSeq cs lend gl s.nxt ops.length 0 ops s.env s.objs (s.nxt + ops.length)).map fun p => (.nrm, ⟨p.1, p.2.1, p.2.2, s.kept⟩)
  | .drwr ops, s => (runDrw cs lend gl s.nxt ops.length s.objs 0 ops s.env s.objs (s.nxt + ops.length) []).map fun p => (.nrm, ⟨p.1, p.2.1, p.2.2, s.kept⟩)
  | .seq a b, s => match exec a s with
    | some (.nrm, s') => exec b s'
    | r => r
  | .cond x a b, s => match evL s.env x with
    | .bool true => exec a s
    | .bool false => exec b s
    | _ => none
  | .block id c, s => match exec c s with
    | some (.exit i, s') => if i = id then some (.nrm, s') else some (.exit i, s')
    | r => r
  | .loop live c, s => loopN (exec c) (canon live) loopFuel s
  | .exit id, s => some (.exit id, s)
  | .ret, s => some (.ret, s)
  | .frz ts c, s => exec c (ts.foldl frzT s)

def resV (s : St) : List DRes → Option (List V)
  | [] => some []
  | .tmp t :: r => (resV s r).map (s.env.getD t .undef :: ·)
  | .cell t n agg :: r => match loadV (getO s.objs) n agg (s.env.getD t .undef), resV s r with
    | some v, some vs => some (v :: vs)
    | _, _ => none
def one1 : List V → V
  | [v] => v
  | vs => .tup vs

def runF (F : DFun) (args : List V) (os : Objs) : Option (V × Objs) :=
  match exec cs lend gl F.body ⟨args ++ List.replicate (F.ntmps - args.length) (.tup []), os, os.length, os.length⟩ with
  | some (.nrm, s) => (resV s F.results).bind fun vs => packR s.objs os.length (one1 vs)
  | some (.ret, s) => (resV s F.results).bind fun vs => packR s.objs os.length (one1 vs)
  | _ => none
end

structure DProg where
  fn : Nat → Option DFun
  gl : Nat → Option (List V)
  prim : Nat → Option (List V → Objs → Option (V × Objs))
def DProg.lend (D : DProg) (f : Nat) : List Bool := ((D.fn f).map (·.lend)).getD []

def callN (D : DProg) : Nat → CallSem
  | 0 => fun _ _ _ => none
  | n + 1 => fun f args os => match D.fn f with
    | some F => runF (callN D n) D.lend D.gl F args os
    | none => match D.prim f with
      | some p => p args os
      | none => none
end Go.Dm
set_option linter.unusedSimpArgs false
set_option linter.unusedVariables false
set_option linter.unusedSectionVars false
namespace Go.Dm

example : ren (fun h => some (h + 1)) (.agg [.hs 3 0 1, .tup [.hp 2 0 0]]) = some (.agg [.hs 4 0 1, .tup [.hp 3 0 0]]) := rfl

theorem getO_put (os : Objs) (h : Nat) (o : Obj) : getO (putO os h o) = upd (getO os) h (some o) := by
  induction os with
  | nil => funext k; simp [putO, getO, upd]
  | cons p os ih =>
    obtain ⟨j, o'⟩ := p
    funext k
    simp only [putO]
    split
    · rename_i e
      subst e
      simp only [getO, upd]
      split <;> rfl
    · rename_i e
      simp only [getO, ih, upd]
      by_cases hk : k = j
      · subst hk; simp [Ne.symm e]
      · simp [hk]
theorem getO_del (os : Objs) (h : Nat) : getO (delO os h) = upd (getO os) h none := by
  induction os with
  | nil => funext k; simp [delO, getO, upd]
  | cons p os ih =>
    obtain ⟨j, o'⟩ := p
    funext k
    simp only [delO]
    split
    · rename_i e
      subst e
      rw [ih]
      simp only [getO, upd]
      split
      · rfl
      · rename_i hk; simp [hk]
    · rename_i e
      simp only [getO, ih, upd]
      by_cases hk : k = j
      · subst hk; simp [Ne.symm e]
      · simp [hk]
theorem getO_upd1 (os : Objs) (h : Nat) (o : Option Obj) : getO (updO os h o) = upd (getO os) h o := by
  cases o with
  | none => exact getO_del os h
  | some o => exact getO_put os h o
theorem getO_upds : ∀ (us : List (Nat × Option Obj)) (os : Objs), getO (updsO us os) = applyU us (getO os)
  | [], os => rfl
  | (h, o) :: r, os => by simp only [updsO, applyU]; rw [getO_upds r, getO_upd1]
theorem getO_eff (os : Objs) (nm : Nat) (e : Eff) : getO (effO os nm e) = applyE (getO os) nm e := by
  unfold effO applyE
  cases h : e.new with
  | none => simp only [getO_upds]
  | some o => simp only [getO_put, getO_upds]

section
variable {w : World} {I : Nat → Prop}

theorem renL_cons {f : Nat → Option Nat} {v : V} {r xs : List V} (h : renL f (v :: r) = some xs) : ∃ x ys, ren f v = some x ∧ renL f r = some ys ∧ xs = x :: ys := by
  simp only [renL] at h
  split at h
  · cases h; exact ⟨_, _, ‹_›, ‹_›, rfl⟩
  · cases h

theorem ren_one {f : Nat → Option Nat} {v x : V} (h : ren f v = some x) : x.one = v.one := by
  cases v <;> simp only [ren, Option.map_eq_some_iff, Option.some.injEq] at h <;> first | (obtain ⟨y, _, rfl⟩ := h; rfl) | (subst h; rfl)
theorem ren_width {f : Nat → Option Nat} {v x : V} (h : ren f v = some x) : x.sto = v.sto := by
  cases v <;> simp only [ren, Option.map_eq_some_iff, Option.some.injEq] at h <;> first | (obtain ⟨y, _, rfl⟩ := h; rfl) | (subst h; rfl)
theorem renL_flat {f : Nat → Option Nat} : ∀ {xs ys : List V}, renL f xs = some ys → flatL xs → flatL ys
  | [], ys, h, _ => by simp [renL] at h; subst h; intro y hy; cases hy
  | v :: r, ys, h, hf => by
    obtain ⟨x, zs, h1, h2, rfl⟩ := renL_cons h
    have := renL_flat h2 (fun y hy => hf y (by simp [hy]))
    intro y hy
    simp only [List.mem_cons] at hy
    rcases hy with rfl | hy
    · rw [ren_one h1]; exact hf v (by simp)
    · exact this y hy

/-- Values under other names. -/
theorem RL.ren {ρ : Rho} {vs : List Value} {xs : List V} (h : RL w I ρ vs xs) : ∀ {ρ' : Rho} {f : Nat → Option Nat} {ys : List V}, (∀ h i p, f h = some i → ρ h = some p → ρ' i = some p) → renL f xs = some ys → RL w I ρ' vs ys := by
  induction h with
  | nil => intro ρ' f ys _ hr; simp [renL] at hr; subst hr; exact .nil
  | iface t v x _ _ ih1 ih =>
    intro ρ' f ys hf hr
    obtain ⟨y, zs, h1, h2, rfl⟩ := renL_cons hr
    simp only [Dm.ren, Option.map_eq_some_iff] at h1
    obtain ⟨z, hz, rfl⟩ := h1
    exact .iface _ _ _ (ih1 hf (by simp [renL, hz])) (ih hf h2)
  | agg a ys' hfl _ _ ih1 ih =>
    intro ρ' f ys hf hr
    obtain ⟨y, zs, h1, h2, rfl⟩ := renL_cons hr
    simp only [Dm.ren, Option.map_eq_some_iff] at h1
    obtain ⟨z, hz, rfl⟩ := h1
    exact .agg _ _ (renL_flat hz hfl) (ih1 hf hz) (ih hf h2)
  | tup a ys' _ _ ih1 ih =>
    intro ρ' f ys hf hr
    obtain ⟨y, zs, h1, h2, rfl⟩ := renL_cons hr
    simp only [Dm.ren, Option.map_eq_some_iff] at h1
    obtain ⟨z, hz, rfl⟩ := h1
    exact .tup _ _ (ih1 hf hz) (ih hf h2)
  | fn g a ys' _ _ ih1 ih =>
    intro ρ' f ys hf hr
    obtain ⟨y, zs, h1, h2, rfl⟩ := renL_cons hr
    simp only [Dm.ren, Option.map_eq_some_iff] at h1
    obtain ⟨z, hz, rfl⟩ := h1
    exact .fn _ _ _ (ih1 hf hz) (ih hf h2)
  | hs h off len b s cap q1 q2 q3 _ ih =>
    intro ρ' f ys hf hr
    obtain ⟨y, zs, h1, h2, rfl⟩ := renL_cons hr
    simp only [Dm.ren, Option.map_eq_some_iff] at h1
    obtain ⟨i, hi, rfl⟩ := h1
    exact .hs _ _ _ _ _ _ (hf _ _ _ hi q1) q2 q3 (ih hf h2)
  | hs0 a h off b s q1 _ ih =>
    intro ρ' f ys hf hr
    obtain ⟨y, zs, h1, h2, rfl⟩ := renL_cons hr
    simp only [Dm.ren, Option.map_eq_some_iff] at h1
    obtain ⟨i, hi, rfl⟩ := h1
    exact .hs0 _ _ _ _ _ (hf _ _ _ hi q1) (ih hf h2)
  | hp h i k b s q1 _ ih =>
    intro ρ' f ys hf hr
    obtain ⟨y, zs, h1, h2, rfl⟩ := renL_cons hr
    simp only [Dm.ren, Option.map_eq_some_iff] at h1
    obtain ⟨i, hi, rfl⟩ := h1
    exact .hp _ _ _ _ _ (hf _ _ _ hi q1) (ih hf h2)
  | hm h b s q1 _ ih =>
    intro ρ' f ys hf hr
    obtain ⟨y, zs, h1, h2, rfl⟩ := renL_cons hr
    simp only [Dm.ren, Option.map_eq_some_iff] at h1
    obtain ⟨i, hi, rfl⟩ := h1
    exact .hm _ _ _ (hf _ _ _ hi q1) (ih hf h2)
  | undef v _ ih => intro ρ' f ys hf hr; obtain ⟨y, zs, h1, h2, rfl⟩ := renL_cons hr; simp only [Dm.ren, Option.some.injEq] at h1; subst h1; exact .undef _ (ih hf h2)
  | bool v _ ih => intro ρ' f ys hf hr; obtain ⟨y, zs, h1, h2, rfl⟩ := renL_cons hr; simp only [Dm.ren, Option.some.injEq] at h1; subst h1; exact .bool _ (ih hf h2)
  | int k v _ ih => intro ρ' f ys hf hr; obtain ⟨y, zs, h1, h2, rfl⟩ := renL_cons hr; simp only [Dm.ren, Option.some.injEq] at h1; subst h1; exact .int _ _ (ih hf h2)
  | str v _ ih => intro ρ' f ys hf hr; obtain ⟨y, zs, h1, h2, rfl⟩ := renL_cons hr; simp only [Dm.ren, Option.some.injEq] at h1; subst h1; exact .str _ (ih hf h2)
  | nilp _ ih => intro ρ' f ys hf hr; obtain ⟨y, zs, h1, h2, rfl⟩ := renL_cons hr; simp only [Dm.ren, Option.some.injEq] at h1; subst h1; exact .nilp (ih hf h2)
  | nils a _ ih => intro ρ' f ys hf hr; obtain ⟨y, zs, h1, h2, rfl⟩ := renL_cons hr; simp only [Dm.ren, Option.some.injEq] at h1; subst h1; exact .nils _ (ih hf h2)
  | nilm _ ih => intro ρ' f ys hf hr; obtain ⟨y, zs, h1, h2, rfl⟩ := renL_cons hr; simp only [Dm.ren, Option.some.injEq] at h1; subst h1; exact .nilm (ih hf h2)
  | nili _ ih => intro ρ' f ys hf hr; obtain ⟨y, zs, h1, h2, rfl⟩ := renL_cons hr; simp only [Dm.ren, Option.some.injEq] at h1; subst h1; exact .nili (ih hf h2)
  | nilf _ ih => intro ρ' f ys hf hr; obtain ⟨y, zs, h1, h2, rfl⟩ := renL_cons hr; simp only [Dm.ren, Option.some.injEq] at h1; subst h1; exact .nilf (ih hf h2)
  | sl0 a cap s _ ih => intro ρ' f ys hf hr; obtain ⟨y, zs, h1, h2, rfl⟩ := renL_cons hr; simp only [Dm.ren, Option.some.injEq] at h1; subst h1; exact .sl0 _ _ _ (ih hf h2)
  | sl1 b o cap s es cs q1 q2 q3 q4 q5 q6 _ _ ih => intro ρ' f ys hf hr; obtain ⟨y, zs, h1, h2, rfl⟩ := renL_cons hr; simp only [Dm.ren, Option.some.injEq] at h1; subst h1; exact .sl1 _ _ _ _ _ _ q1 q2 q3 q4 q5 q6 (ih hf h2)
  | pt b o xs cs q1 q2 q3 q4 _ _ ih => intro ρ' f ys hf hr; obtain ⟨y, zs, h1, h2, rfl⟩ := renL_cons hr; simp only [Dm.ren, Option.some.injEq] at h1; subst h1; exact .pt _ _ _ _ q1 q2 q3 q4 (ih hf h2)
  | gp g off _ ih => intro ρ' f ys hf hr; obtain ⟨y, zs, h1, h2, rfl⟩ := renL_cons hr; simp only [Dm.ren, Option.some.injEq] at h1; subst h1; exact .gp _ _ (ih hf h2)

theorem R.ren {ρ ρ' : Rho} {v : Value} {x y : V} {f : Nat → Option Nat} (h : R w I ρ v x) (hf : ∀ h i p, f h = some i → ρ h = some p → ρ' i = some p) (hr : Dm.ren f x = some y) : R w I ρ' v y :=
  RL.ren h hf (by simp [renL, hr])

theorem ObjR.ren {ρ ρ' : Rho} {b s : Nat} {o o' : Obj} {f : Nat → Option Nat} (h : ObjR w I ρ b s o) (hf : ∀ h i p, f h = some i → ρ h = some p → ρ' i = some p) (hr : renO f o = some o') : ObjR w I ρ' b s o' := by
  cases o with
  | row es s' => simp only [renO, Option.some.injEq] at hr; subst hr; exact h
  | mp es => simp only [renO, Option.some.injEq] at hr; subst hr; exact h
  | box cs =>
    simp only [renO, Option.map_eq_some_iff] at hr
    obtain ⟨cs', hc, rfl⟩ := hr
    obtain ⟨h0, cs0, e, fr, h1, h2, h3⟩ := h
    exact ⟨renL_flat hc h0, cs0, e, fr, h1, h2, RL.ren h3 hf hc⟩

/-- What holds no memory that nobody writes reads the same whatever that memory is. -/
theorem RL.clean {ρ : Rho} {vs : List Value} {xs : List V} (h : RL w I ρ vs xs) : ∀ {I' : Nat → Prop}, Dm.clean.cleanL xs = true → RL w I' ρ vs xs := by
  induction h with
  | nil => intro _ _; exact .nil
  | iface t v x _ _ ih1 ih => intro I' hc; simp only [Dm.clean.cleanL, Dm.clean, Bool.and_eq_true] at hc; exact .iface _ _ _ (ih1 (by simp [Dm.clean.cleanL, hc.1])) (ih hc.2)
  | agg a ys q _ _ ih1 ih => intro I' hc; simp only [Dm.clean.cleanL, Dm.clean, Bool.and_eq_true] at hc; exact .agg _ _ q (ih1 hc.1) (ih hc.2)
  | tup a ys _ _ ih1 ih => intro I' hc; simp only [Dm.clean.cleanL, Dm.clean, Bool.and_eq_true] at hc; exact .tup _ _ (ih1 hc.1) (ih hc.2)
  | fn g a ys _ _ ih1 ih => intro I' hc; simp only [Dm.clean.cleanL, Dm.clean, Bool.and_eq_true] at hc; exact .fn _ _ _ (ih1 hc.1) (ih hc.2)
  | hs _ _ _ _ _ _ q1 q2 q3 _ ih => intro I' hc; simp only [Dm.clean.cleanL, Dm.clean, Bool.and_eq_true] at hc; exact .hs _ _ _ _ _ _ q1 q2 q3 (ih hc.2)
  | hs0 _ _ _ _ _ q1 _ ih => intro I' hc; simp only [Dm.clean.cleanL, Dm.clean, Bool.and_eq_true] at hc; exact .hs0 _ _ _ _ _ q1 (ih hc.2)
  | hp _ _ _ _ _ q1 _ ih => intro I' hc; simp only [Dm.clean.cleanL, Dm.clean, Bool.and_eq_true] at hc; exact .hp _ _ _ _ _ q1 (ih hc.2)
  | hm _ _ _ q1 _ ih => intro I' hc; simp only [Dm.clean.cleanL, Dm.clean, Bool.and_eq_true] at hc; exact .hm _ _ _ q1 (ih hc.2)
  | undef _ _ ih => intro I' hc; simp only [Dm.clean.cleanL, Dm.clean, Bool.and_eq_true] at hc; exact .undef _ (ih hc.2)
  | bool _ _ ih => intro I' hc; simp only [Dm.clean.cleanL, Dm.clean, Bool.and_eq_true] at hc; exact .bool _ (ih hc.2)
  | int _ _ _ ih => intro I' hc; simp only [Dm.clean.cleanL, Dm.clean, Bool.and_eq_true] at hc; exact .int _ _ (ih hc.2)
  | str _ _ ih => intro I' hc; simp only [Dm.clean.cleanL, Dm.clean, Bool.and_eq_true] at hc; exact .str _ (ih hc.2)
  | nilp _ ih => intro I' hc; simp only [Dm.clean.cleanL, Dm.clean, Bool.and_eq_true] at hc; exact .nilp (ih hc.2)
  | nils _ _ ih => intro I' hc; simp only [Dm.clean.cleanL, Dm.clean, Bool.and_eq_true] at hc; exact .nils _ (ih hc.2)
  | nilm _ ih => intro I' hc; simp only [Dm.clean.cleanL, Dm.clean, Bool.and_eq_true] at hc; exact .nilm (ih hc.2)
  | nili _ ih => intro I' hc; simp only [Dm.clean.cleanL, Dm.clean, Bool.and_eq_true] at hc; exact .nili (ih hc.2)
  | nilf _ ih => intro I' hc; simp only [Dm.clean.cleanL, Dm.clean, Bool.and_eq_true] at hc; exact .nilf (ih hc.2)
  | gp _ _ _ ih => intro I' hc; simp only [Dm.clean.cleanL, Dm.clean, Bool.and_eq_true] at hc; exact .gp _ _ (ih hc.2)
  | sl0 _ _ _ _ ih => intro I' hc; simp only [Dm.clean.cleanL, Dm.clean, Bool.and_eq_true] at hc; exact .sl0 _ _ _ (ih hc.2)
  | sl1 b o cap s es cs q1 q2 q3 q4 q5 q6 _ ih0 ih =>
    intro I' hc
    simp only [Dm.clean.cleanL, Dm.clean, Bool.and_eq_true] at hc
    cases es with
    | nil => exact .sl0 _ _ _ (ih hc.2)
    | cons e es => simp at hc
  | pt b o xs cs q1 q2 q3 q4 _ ih0 ih => intro I' hc; simp [Dm.clean.cleanL, Dm.clean] at hc
theorem R.clean {ρ : Rho} {v : Value} {x : V} (h : R w I ρ v x) {I' : Nat → Prop} (hc : Dm.clean x = true) : R w I' ρ v x := RL.clean h (by simp [Dm.clean.cleanL, hc])
theorem cleanL_take (xs : List V) (h : Dm.clean.cleanL xs = true) : ∀ y ∈ xs, Dm.clean y = true := by
  induction xs with
  | nil => intro y hy; cases hy
  | cons x xs ih =>
    simp only [Dm.clean.cleanL, Bool.and_eq_true] at h
    intro y hy
    simp only [List.mem_cons] at hy
    rcases hy with rfl | hy
    · exact h.1
    · exact ih h.2 y hy
theorem cleanL_of {xs : List V} (h : ∀ y ∈ xs, Dm.clean y = true) : Dm.clean.cleanL xs = true := by
  induction xs with
  | nil => rfl
  | cons x xs ih => simp only [Dm.clean.cleanL, Bool.and_eq_true]; exact ⟨h x (by simp), ih fun y hy => h y (by simp [hy])⟩
theorem clean_cells {x : V} (h : Dm.clean x = true) : Dm.clean.cleanL x.cells = true := by
  cases x <;> simp_all [V.cells, Dm.clean, Dm.clean.cleanL]
theorem cleanL_cells {es : List V} (h : Dm.clean.cleanL es = true) : Dm.clean.cleanL (cellsL es) = true := by
  apply cleanL_of
  intro y hy
  simp only [cellsL, List.mem_flatMap] at hy
  obtain ⟨e, he, hy⟩ := hy
  exact cleanL_take _ (clean_cells (cleanL_take _ h e he)) y hy
theorem ObjR.clean {ρ : Rho} {b s : Nat} {o : Obj} (h : ObjR w I ρ b s o) {I' : Nat → Prop} (hc : cleanO o = true) : ObjR w I' ρ b s o := by
  cases o with
  | row es s' =>
    obtain ⟨h1, h2, h0, cs, e, fr, h3, h4, h5⟩ := h
    exact ⟨h1, h2, h0, cs, e, fr, h3, h4, h5.clean (cleanL_cells hc)⟩
  | box cs =>
    obtain ⟨h0, cs0, e, fr, h1, h2, h3⟩ := h
    exact ⟨h0, cs0, e, fr, h1, h2, h3.clean hc⟩
  | mp es =>
    obtain ⟨en, c, h3, h4, h5, h6⟩ := h
    exact ⟨en, c, h3, h4.clean hc, h5, h6⟩
end
end Go.Dm
set_option linter.unusedSimpArgs false
set_option linter.unusedVariables false
set_option linter.unusedSectionVars false
namespace Go.Dm

/-! Names. -/
theorem posN_some : ∀ {ns : List Nat} {h i j : Nat}, posN h ns j = some i → ∃ k, i = j + k ∧ ns[k]? = some h
  | [], _, _, _, e => by simp [posN] at e
  | n :: ns, h, i, j, e => by
    simp only [posN] at e
    split at e
    · rename_i hh; cases e; exact ⟨0, by omega, by simp [hh]⟩
    · obtain ⟨k, rfl, hk⟩ := posN_some e
      exact ⟨k + 1, by omega, by simpa using hk⟩
theorem posN_get {ns : List Nat} {h i : Nat} (e : posN h ns 0 = some i) : ns[i]? = some h := by
  obtain ⟨k, rfl, hk⟩ := posN_some e
  simpa using hk

def Pre (ns ms : List Nat) : Prop := (∃ t, ms = ns ++ t) ∧ (ns.Nodup → ms.Nodup)
theorem Pre.refl (ns : List Nat) : Pre ns ns := ⟨⟨[], by simp⟩, id⟩
theorem Pre.trans {a b c : List Nat} (h : Pre a b) (k : Pre b c) : Pre a c := by
  obtain ⟨⟨t, rfl⟩, h2⟩ := h
  obtain ⟨⟨u, rfl⟩, k2⟩ := k
  exact ⟨⟨t ++ u, by simp⟩, fun q => k2 (h2 q)⟩
theorem addN_pre (ns : List Nat) (h : Nat) : Pre ns (addN ns h) := by
  unfold addN
  split
  · exact Pre.refl _
  · rename_i hh
    refine ⟨⟨[h], rfl⟩, fun q => ?_⟩
    have hm : h ∉ ns := by simpa using hh
    rw [List.nodup_append]
    exact ⟨q, by simp, fun a ha c hc => by simp at hc; subst hc; exact fun e => hm (e ▸ ha)⟩
mutual
theorem hands_pre : ∀ (v : V) (ns : List Nat), Pre ns (hands ns v)
  | .iface _ v, ns => hands_pre v ns
  | .agg cs, ns => handsL_pre cs ns
  | .tup cs, ns => handsL_pre cs ns
  | .fn _ cs, ns => handsL_pre cs ns
  | .hs h _ _, ns => addN_pre ns h
  | .hp h _ _, ns => addN_pre ns h
  | .hm h, ns => addN_pre ns h
  | .undef, ns | .bool _, ns | .int _ _, ns | .str _, ns | .nilp, ns | .nils, ns | .nilm, ns | .nili, ns | .nilf, ns | .sl _ _, ns | .pt _, ns | .gp _ _, ns => Pre.refl _
theorem handsL_pre : ∀ (vs : List V) (ns : List Nat), Pre ns (handsL ns vs)
  | [], ns => Pre.refl _
  | v :: r, ns => (hands_pre v ns).trans (handsL_pre r _)
end
theorem handsO_pre (ns : List Nat) (o : Option Obj) : Pre ns (handsO ns o) := by
  unfold handsO
  split
  · exact handsL_pre _ _
  · exact Pre.refl _
theorem reach_pre (os : Objs) : ∀ (n i : Nat) (ns : List Nat), Pre ns (reach os n i ns)
  | 0, _, ns => Pre.refl _
  | n + 1, i, ns => by
    unfold reach
    split
    · exact Pre.refl _
    · exact (handsO_pre ns _).trans (reach_pre os n _ _)
theorem hasAll_mem {os : Objs} : ∀ {ns : List Nat}, hasAll os ns = true → ∀ h ∈ ns, (getO os h).isSome = true
  | [], _, h, hh => by cases hh
  | n :: ns, he, h, hh => by
    simp only [hasAll, Bool.and_eq_true] at he
    simp only [List.mem_cons] at hh
    rcases hh with rfl | hh
    · exact he.1
    · exact hasAll_mem he.2 h hh

theorem packO_get {os : Objs} {f : Nat → Option Nat} : ∀ {ns : List Nat} {i : Nat} {x : Objs}, packO os f i ns = some x → ∀ j o', getO x j = some o' → ∃ k h o, j = i + k ∧ ns[k]? = some h ∧ getO os h = some o ∧ renO f o = some o'
  | [], i, x, h, j, o', hg => by simp [packO] at h; subst h; simp [getO] at hg
  | n :: ns, i, x, h, j, o', hg => by
    simp only [packO] at h
    split at h
    · rename_i o x' h1 h2
      obtain ⟨o1, ho1, rfl⟩ := Option.map_eq_some_iff.1 h
      simp only [getO] at hg
      split at hg
      · rename_i e
        cases hg
        exact ⟨0, n, o, by omega, rfl, h1, ho1⟩
      · obtain ⟨k, h', o2, rfl, q1, q2, q3⟩ := packO_get h2 j o' hg
        exact ⟨k + 1, h', o2, by omega, by simpa using q1, q2, q3⟩
    · rename_i x' h1 h2
      cases h
      obtain ⟨k, h', o2, rfl, q1, q2, q3⟩ := packO_get h2 j o' hg
      exact ⟨k + 1, h', o2, by omega, by simpa using q1, q2, q3⟩
    · cases h
theorem packO_has {os : Objs} {f : Nat → Option Nat} : ∀ {ns : List Nat} {i : Nat} {x : Objs}, packO os f i ns = some x → ∀ k h o, ns[k]? = some h → getO os h = some o → (getO x (i + k)).isSome = true
  | [], i, x, h, k, h', o, hk, _ => by simp at hk
  | n :: ns, i, x, h, k, h', o, hk, ho => by
    simp only [packO] at h
    split at h
    · rename_i o2 x' h1 h2
      obtain ⟨o1, ho1, rfl⟩ := Option.map_eq_some_iff.1 h
      simp only [getO]
      split
      · rfl
      · cases k with
        | zero => omega
        | succ k =>
          have := packO_has h2 k h' o (by simpa using hk) ho
          rwa [show i + 1 + k = i + (k + 1) by omega] at this
    · rename_i x' h1 h2
      cases h
      cases k with
      | zero => simp at hk; subst hk; rw [h1] at ho; cases ho
      | succ k =>
        have := packO_has h2 k h' o (by simpa using hk) ho
        rwa [show i + 1 + k = i + (k + 1) by omega] at this
    · cases h

/-- The objects of some names, under their places. -/
def rhoN (ρ : Rho) (ns : List Nat) : Rho := fun i => (ns[i]?).bind ρ
theorem rhoN_ok (ρ : Rho) (ns : List Nat) : ∀ h i p, posN h ns 0 = some i → ρ h = some p → rhoN ρ ns i = some p := by
  intro h i p e hp
  simp [rhoN, posN_get e, hp]

theorem nodup_get {ns : List Nat} (h : ns.Nodup) {i j k : Nat} (h1 : ns[i]? = some k) (h2 : ns[j]? = some k) : i = j := by
  have hi : i < ns.length := (List.getElem?_eq_some_iff.1 h1).1
  exact (List.getElem?_inj hi h).1 (h1.trans h2.symm)

section
variable {w0 w : World} {O I0 I : Nat → Prop} {ρ : Rho} {used : Nat → Prop}
/-- A state under other names. -/
theorem Rel.names' {g : Nat → Option Obj} {x : Objs} {ns : List Nat} (hR : Rel w0 O I0 I ρ g used w) (hn : ns.Nodup)
    (hp : ∀ j o', getO x j = some o' → ∃ h o, ns[j]? = some h ∧ g h = some o ∧ renO (posN · ns 0) o = some o') :
    Rel w0 O I0 I (rhoN ρ ns) (getO x) (· < ns.length) w :=
  ⟨hR.os, hR.tape, hR.output, hR.size, hR.frame, hR.csz, hR.ilt, hR.isub, fun h p hh => by
    unfold rhoN at hh
    cases hq : ns[h]? with
    | none => rw [hq] at hh; cases hh
    | some _ => exact (List.getElem?_eq_some_iff.1 hq).1,
   fun h o' hg => by
    obtain ⟨h', o, q1, q2, q3⟩ := hp h o' hg
    obtain ⟨b, s, r1, r2, r3, r4⟩ := hR.obj h' o q2
    exact ⟨b, s, by simp [rhoN, q1, r1], r2, r3, r4.ren (rhoN_ok ρ ns) q3⟩,
   fun h h' o o' b s b' s' g1 g2 r1 r2 hne => by
    obtain ⟨n, o1, q1, q2, q3⟩ := hp h o g1
    obtain ⟨n', o1', q1', q2', q3'⟩ := hp h' o' g2
    simp only [rhoN, q1, q1', Option.bind_some] at r1 r2
    exact hR.inj n n' o1 o1' b s b' s' q2 q2' r1 r2 (fun e => hne (by subst e; exact nodup_get hn q1 q1'))⟩
theorem Rel.names {os x : Objs} {ns : List Nat} (hR : Rel w0 O I0 I ρ (getO os) used w) (hn : ns.Nodup) (hp : packO os (posN · ns 0) 0 ns = some x) :
    Rel w0 O I0 I (rhoN ρ ns) (getO x) (· < ns.length) w :=
  hR.names' hn fun j o' hg => by
    obtain ⟨k, h', o, rfl, q1, q2, q3⟩ := packO_get hp j o' hg
    exact ⟨h', o, by simpa using q1, q2, q3⟩
/-- Seen from here on. -/
theorem Rel.rebase {g : Nat → Option Obj} (hR : Rel w0 O I0 I ρ g used w) (O' : Nat → Prop) (hO : ∀ h o b s, g h = some o → ρ h = some (b, s) → O' b) : Rel w O' I I ρ g used w :=
  ⟨rfl, rfl, rfl, Nat.le_refl _, fun _ _ _ => rfl, fun _ => Nat.le_refl _, hR.ilt, fun _ h => .inl h, hR.dom, fun h o hg => by
    obtain ⟨b, s, r1, r2, r3, r4⟩ := hR.obj h o hg
    exact ⟨b, s, r1, r2, .inl (hO h o b s hg r1), r4⟩, hR.inj⟩
end

theorem applyU_mem : ∀ (us : List (Nat × Option Obj)) (g : Nat → Option Obj) (h : Nat) (o : Option Obj), applyU us g h = o → (h, o) ∈ us ∨ ((∀ p ∈ us, p.1 ≠ h) ∧ g h = o)
  | [], g, h, o, e => .inr ⟨by simp, e⟩
  | (k, q) :: r, g, h, o, e => by
    rcases applyU_mem r _ h o e with e1 | ⟨e1, e2⟩
    · exact .inl (by simp [e1])
    · by_cases hk : h = k
      · subst hk
        rw [upd_same] at e2
        subst e2
        exact .inl (by simp)
      · rw [upd_ne _ _ hk] at e2
        refine .inr ⟨?_, e2⟩
        intro p hp
        simp only [List.mem_cons] at hp
        rcases hp with rfl | hp
        · exact Ne.symm hk
        · exact e1 p hp
end Go.Dm
set_option linter.unusedSimpArgs false
set_option linter.unusedVariables false
set_option linter.unusedSectionVars false
namespace Go.Dm

/-- Each name stands once. -/
def Once (os : Objs) : Prop := ∀ p ∈ os, getO os p.1 = some p.2

def Ent (P : Program) (f : Nat) : Prop := ∃ fn, P.funcs[f]? = some fn ∧ fn.body.isNone = false ∧ (fn.name == "runtime.NumGoroutine") = false
/-- A call of a function with a body; or of one that the model answers itself. -/
def CallsX (P : Program) (f : Nat) (args : Array Value) (w : World) (Q : Ending → World → Prop) : Prop :=
  (Ent P f ∧ Calls P f args w Q) ∨ ∃ v w', (callFunc f args).run P w = .ok (.value v) w' ∧ Q (.returned v) w'
theorem CallsX.mono {P : Program} {f : Nat} {args : Array Value} {w : World} {Q Q' : Ending → World → Prop} (h : CallsX P f args w Q) (hq : ∀ e w, Q e w → Q' e w) : CallsX P f args w Q' := by
  rcases h with ⟨he, h⟩ | ⟨v, w', h1, h2⟩
  · exact .inl ⟨he, h.mono hq⟩
  · exact .inr ⟨v, w', h1, hq _ _ h2⟩
theorem run_callFunc {P : Program} {w : World} {f : Nat} (h : Ent P f) (args : Array Value) : (callFunc f args).run P w = .ok (.enter f args) w := by
  obtain ⟨fn, h1, h2, h3⟩ := h
  have hn : fn.name ≠ "runtime.NumGoroutine" := by simpa using h3
  have hb : fn.body ≠ none := by cases hq : fn.body <;> simp [hq] at h2 ⊢
  simp [callFunc, Sem.run_bind, run_program, h1, hn, hb]
theorem CallsX.calls {P : Program} {f : Nat} {args : Array Value} {w : World} {Q : Ending → World → Prop} (h : CallsX P f args w Q) (he : Ent P f) : Calls P f args w Q := by
  rcases h with ⟨_, h⟩ | ⟨v, w', h1, _⟩
  · exact h
  · rw [run_callFunc he] at h1; cases h1
/-- What the calls' meaning says is so. -/
def CSnd (P : Program) (gl : Nat → Option (List V)) (cs : CallSem) : Prop :=
  ∀ (f : Nat) (args : List V) (os : Objs) (r : V) (os' : Objs), cs f args os = some (r, os') → ∀ (w : World) (O I : Nat → Prop) (ρ : Rho) (cargs : Array Value),
    Rel w O I I ρ (getO os) (· < os.length) w → RL w I ρ cargs.toList args → GlR w I gl → Once os →
    Once os' ∧ CallsX P f cargs w fun e w' => ∃ rv I' ρ', e = .returned rv ∧ R w' I' ρ' rv r ∧
      Rel w O I I' ρ' (getO os') (fun j => j < os.length ∨ (getO os' j).isSome = true) w' ∧ (∀ i p, i < os.length → ρ i = some p → ρ' i = some p)

theorem GlR.ext {w w' : World} {I I' : Nat → Prop} {ρ ρ' : Rho} {gl : Nat → Option (List V)} (h : GlR w I gl) (hx : Ext w I ρ w' I' ρ') : GlR w' I' gl := fun gi cs hg => by
  obtain ⟨h1, h2, vs, h3, h4⟩ := h gi cs hg
  refine ⟨hx.imp _ h1, h2, vs, fun j v hv => ?_, hx.rl0 h4⟩
  rw [← h3 j v hv]
  simp only [World.cell?, hx.heap _ h1]

section
variable {P : Program} {w0 w : World} {O I0 I : Nat → Prop} {ρ : Rho} {used : Nat → Prop}

theorem lendA_sound {g : Nat → Option Obj} (hR : Rel w0 O I0 I ρ g used w) : ∀ (bs : List Bool) (vs : List V) (cv : List Value) (vs1 : List V) (ks : List Nat), lendA g bs vs = some (vs1, ks) → RL w I ρ cv vs →
    (∀ h ∈ ks, ∃ o, g h = some o) ∧ ∀ I'' : Nat → Prop, (∀ b, I b → I'' b) → (∀ h ∈ ks, ∀ b s, ρ h = some (b, s) → I'' b) → RL w I'' ρ cv vs1 := by
  have base : ∀ {cv : List Value} {vs : List V}, RL w I ρ cv vs → (∀ h ∈ ([] : List Nat), ∃ o, g h = some o) ∧ ∀ I'' : Nat → Prop, (∀ b, I b → I'' b) → (∀ h ∈ ([] : List Nat), ∀ b s, ρ h = some (b, s) → I'' b) → RL w I'' ρ cv vs :=
    fun hr => ⟨by simp, fun I'' h _ => hr.mono (fun _ _ => rfl) (fun _ => Nat.le_refl _) h (fun _ _ h => h)⟩
  intro bs
  induction bs with
  | nil => intro vs cv vs1 ks h hr; simp [lendA] at h; obtain ⟨rfl, rfl⟩ := h; exact base hr
  | cons b bs ih =>
    intro vs cv vs1 ks h hr
    cases vs with
    | nil => cases b <;> simp [lendA] at h <;> (obtain ⟨rfl, rfl⟩ := h; exact base hr)
    | cons v vs =>
      cases cv with
      | nil => cases hr
      | cons c cv =>
        obtain ⟨h1, h2⟩ := hr.cons_split
        cases b with
        | true =>
          simp only [lendA] at h
          split at h
          · rename_i x k xs ks' e1 e2
            cases h
            obtain ⟨a1, _, a3⟩ := deep_sound hR 6 _ _ _ _ e1 h1
            obtain ⟨b1, b2⟩ := ih _ _ _ _ e2 h2
            refine ⟨fun h hh => ?_, fun I'' q1 q2 => ?_⟩
            · rcases List.mem_append.1 hh with hh | hh
              · exact a1 h hh
              · exact b1 h hh
            · exact RL.cons (a3 I'' q1 fun h hh => q2 h (List.mem_append_left _ hh)).of0 (b2 I'' q1 fun h hh => q2 h (List.mem_append_right _ hh))
          · cases h
        | false =>
          simp only [lendA, Option.map_eq_some_iff, Prod.mk.injEq] at h
          obtain ⟨p, hp, rfl, rfl⟩ := h
          obtain ⟨b1, b2⟩ := ih vs cv p.1 p.2 hp h2
          exact ⟨b1, fun I'' q1 q2 => RL.cons (h1.mono (fun _ _ => rfl) (fun _ => Nat.le_refl _) q1 (fun _ _ h => h)) (b2 I'' q1 q2)⟩

theorem packO_once {os : Objs} {f : Nat → Option Nat} : ∀ {ns : List Nat} {i : Nat} {x : Objs}, packO os f i ns = some x → (∀ p ∈ x, i ≤ p.1) ∧ Once x
  | [], i, x, h => by simp [packO] at h; subst h; exact ⟨by simp, fun p hp => by cases hp⟩
  | n :: ns, i, x, h => by
    simp only [packO] at h
    split at h
    · rename_i o x' h1 h2
      obtain ⟨o1, ho1, rfl⟩ := Option.map_eq_some_iff.1 h
      obtain ⟨a, b⟩ := packO_once h2
      refine ⟨fun p hp => ?_, fun p hp => ?_⟩
      · simp only [List.mem_cons] at hp
        rcases hp with rfl | hp
        · exact Nat.le_refl _
        · have := a p hp; omega
      · simp only [List.mem_cons] at hp
        rcases hp with rfl | hp
        · simp [getO]
        · have := a p hp
          simp only [getO]
          rw [if_neg (by omega)]
          exact b p hp
    · rename_i x' h1 h2
      cases h
      obtain ⟨a, b⟩ := packO_once h2
      exact ⟨fun p hp => by have := a p hp; omega, b⟩
    · cases h
theorem packO_length {os : Objs} {f : Nat → Option Nat} : ∀ {ns : List Nat} {i : Nat} {x : Objs}, packO os f i ns = some x → (∀ h ∈ ns, (getO os h).isSome = true) → x.length = ns.length
  | [], i, x, h, _ => by simp [packO] at h; subst h; rfl
  | n :: ns, i, x, h, hn => by
    simp only [packO] at h
    split at h
    · rename_i o x' h1 h2
      obtain ⟨o1, ho1, rfl⟩ := Option.map_eq_some_iff.1 h
      simp [packO_length h2 fun h hh => hn h (by simp [hh])]
    · rename_i x' h1 h2
      have := hn n (by simp)
      rw [h1] at this
      cases this
    · cases h

theorem gone_mem {os2 : Objs} : ∀ {ns : List Nat} {i : Nat} {p : Nat × Option Obj}, p ∈ gone os2 i ns → p.2 = none ∧ p.1 ∈ ns
  | [], _, _, h => by simp [gone] at h
  | n :: ns, i, p, h => by
    simp only [gone] at h
    split at h
    · obtain ⟨a, b⟩ := gone_mem h; exact ⟨a, by simp [b]⟩
    · simp only [List.mem_cons] at h
      rcases h with rfl | h
      · exact ⟨rfl, by simp⟩
      · obtain ⟨a, b⟩ := gone_mem h; exact ⟨a, by simp [b]⟩
theorem gone_has {os2 : Objs} : ∀ {ns : List Nat} {i k h : Nat}, ns[k]? = some h → getO os2 (i + k) = none → (h, none) ∈ gone os2 i ns
  | [], _, _, _, e, _ => by simp at e
  | n :: ns, i, k, h, e, hg => by
    simp only [gone]
    cases k with
    | zero =>
      simp at e; subst e
      rw [Nat.add_zero] at hg
      rw [hg]; simp
    | succ k =>
      have := gone_has (i := i + 1) (ns := ns) (k := k) (by simpa using e) (by rw [show i + 1 + k = i + (k + 1) by omega]; exact hg)
      split
      · exact this
      · simp [this]
theorem backO_mem {f : Nat → Option Nat} : ∀ {os2 : Objs} {us : List (Nat × Option Obj)}, backO f os2 = some us →
    (∀ p ∈ us, ∃ i o o', (i, o) ∈ os2 ∧ f i = some p.1 ∧ renO f o = some o' ∧ p.2 = some o') ∧ (∀ p ∈ os2, ∃ h o', f p.1 = some h ∧ (h, some o') ∈ us)
  | [], us, h => by simp [backO] at h; subst h; exact ⟨by simp, by simp⟩
  | (i, o) :: r, us, h => by
    simp only [backO] at h
    split at h
    · rename_i h' o' x h1 h2 h3
      cases h
      obtain ⟨a, b⟩ := backO_mem h3
      refine ⟨fun p hp => ?_, fun p hp => ?_⟩
      · simp only [List.mem_cons] at hp
        rcases hp with rfl | hp
        · exact ⟨i, o, o', by simp, h1, h2, rfl⟩
        · obtain ⟨i', o1, o2, q1, q2⟩ := a p hp
          exact ⟨i', o1, o2, by simp [q1], q2⟩
      · simp only [List.mem_cons] at hp
        rcases hp with rfl | hp
        · exact ⟨h', o', h1, by simp⟩
        · obtain ⟨h2, o2, q1, q2⟩ := b p hp
          exact ⟨h2, o2, q1, by simp [q2]⟩
    · cases h
end
end Go.Dm
set_option linter.unusedSimpArgs false
set_option linter.unusedVariables false
set_option linter.unusedSectionVars false
namespace Go.Dm

/-- The names that one operation of a region may give. -/
def cls (nm stride h : Nat) : Prop := nm ≤ h ∧ (h - nm) % stride = 0
theorem cls_mk (nm stride i : Nat) : cls nm stride (nm + stride * i) := ⟨by omega, by simp⟩
theorem cls_get {nm stride h : Nat} (hs : 0 < stride) (hc : cls nm stride h) : ∃ i, h = nm + stride * i := by
  obtain ⟨h1, h2⟩ := hc
  refine ⟨(h - nm) / stride, ?_⟩
  have := Nat.div_add_mod (h - nm) stride
  omega

open Classical in
/-- The handles' blocks behind a call. -/
noncomputable def rhoB (ρ ρ' : Rho) (k nm stride : Nat) : Rho := fun h => if cls nm stride h then ρ' (k + (h - nm) / stride) else ρ h

section
variable {P : Program} {w0 w : World} {O I0 I : Nat → Prop} {ρ : Rho} {used : Nat → Prop}

theorem doCall_sound {cs : CallSem} {lend : Nat → List Bool} {gl : Nat → Option (List V)} {os : Objs} {nm stride f : Nat} {vs : List V} {eff : Eff} {cargs : Array Value}
    (hC : CSnd P gl cs) (hR : Rel w0 O I0 I ρ (getO os) used w) (hnm : ∀ h, cls nm stride h → ¬ used h) (hst : 0 < stride) (hvs : RL w I ρ cargs.toList vs) (hG : GlR w I gl)
    (h : doCall cs lend os nm stride f vs = some eff) :
    CallsX P f cargs w fun e w' => ∃ rv I' ρ', e = .returned rv ∧ R w' I' ρ' rv eff.v ∧ Rel w0 O I0 I' ρ' (applyE (getO os) nm eff) (fun h => used h ∨ (cls nm stride h ∧ h ∈ effKeys eff)) w' ∧ Ext w I ρ w' I' ρ' := by
  unfold doCall at h
  split at h
  · cases h
  rename_i vs1 ks hl
  split at h
  · cases h
  rename_i ns vs2 os1 hp
  split at h
  · cases h
  rename_i hdis
  split at h
  · cases h
  rename_i r os2 hcs
  split at h
  case h_2 => cases h
  rename_i r' us hr' hus
  cases h
  -- what is lent
  obtain ⟨l1, l2⟩ := lendA_sound hR _ _ _ _ _ hl hvs
  obtain ⟨f1, f2⟩ := hR.freezes ks l1
  have hargs := l2 (freezeI I ρ ks) (freezeI_of I ρ ks).1 (freezeI_of I ρ ks).2
  -- what is passed
  unfold pack at hp
  simp only at hp
  split at hp
  case h_2 => cases hp
  rename_i vs' os' hall hren hpk
  cases hp
  generalize hns : reach os bfs 0 (handsL [] vs1) = ns at *
  have hpre : Pre [] ns := by
    rw [← hns]
    exact (handsL_pre vs1 []).trans (reach_pre os bfs 0 _)
  have hnod : ns.Nodup := hpre.2 List.nodup_nil
  have hhas : ∀ h ∈ ns, (getO os h).isSome = true := hasAll_mem hall
  have hlen : os1.length = ns.length := packO_length hpk hhas
  have hdis' : ∀ h ∈ ks, h ∉ ns := fun h hh hn => hdis (by simp only [List.any_eq_true]; exact ⟨h, hh, by simpa using hn⟩)
  have hown : ∀ h ∈ ns, ∃ o b s, getO os h = some o ∧ ρ h = some (b, s) ∧ ¬ I b ∧ (O b ∨ w0.heap.size ≤ b) ∧ b < w.heap.size := fun h hh => by
    obtain ⟨o, ho⟩ := Option.isSome_iff_exists.1 (hhas h hh)
    obtain ⟨b, s, q1, q2, q3, q4⟩ := hR.obj h o ho
    exact ⟨o, b, s, ho, q1, q2, q3, q4.lt⟩
  -- the callee's state
  have n1 : Rel w0 O I0 (freezeI I ρ ks) (rhoN ρ ns) (getO os1) (· < ns.length) w := f1.names' hnod fun j o' hg => by
    obtain ⟨k, h', o, rfl, q1, q2, q3⟩ := packO_get hpk j o' hg
    refine ⟨h', o, by simpa using q1, ?_, q3⟩
    rw [applyU_kills, if_neg (fun hk => hdis' h' hk (List.mem_of_getElem? q1))]
    exact q2
  let Oc : Nat → Prop := fun b => ∃ h ∈ ns, ∃ s, ρ h = some (b, s)
  have n2 : Rel w Oc (freezeI I ρ ks) (freezeI I ρ ks) (rhoN ρ ns) (getO os1) (· < os1.length) w := by
    rw [hlen]
    refine n1.rebase Oc fun h o b s hg hr => ?_
    unfold rhoN at hr
    cases hq : ns[h]? with
    | none => rw [hq] at hr; cases hr
    | some h' => rw [hq] at hr; exact ⟨h', List.mem_of_getElem? hq, s, hr⟩
  have hargs2 : RL w (freezeI I ρ ks) (rhoN ρ ns) cargs.toList vs2 := hargs.ren (rhoN_ok ρ ns) hren
  obtain ⟨honce, hcall⟩ := hC f vs2 os1 r os2 hcs w Oc (freezeI I ρ ks) (rhoN ρ ns) cargs n2 hargs2 (hG.ext f2) (packO_once hpk).2
  refine hcall.mono fun e w' he => ?_
  obtain ⟨rv, I', ρ', rfl, hrv, hR', hkeep⟩ := he
  -- back
  have hOc : ∀ b, Oc b → ¬ I b ∧ (O b ∨ w0.heap.size ≤ b) ∧ b < w.heap.size := fun b hb => by
    obtain ⟨h, hh, s, hr⟩ := hb
    obtain ⟨o, b', s', q1, q2, q3, q4, q5⟩ := hown h hh
    rw [hr] at q2; cases q2
    exact ⟨q3, q4, q5⟩
  have hold : ∀ h p, ρ h = some p → ¬ cls nm stride h := fun h p hp hc => hnm h hc (hR.dom h p hp)
  have hrhoOld : ∀ h p, ρ h = some p → rhoB ρ ρ' ns.length nm stride h = some p := fun h p hp => by
    unfold rhoB; rw [if_neg (hold h p hp)]; exact hp
  have hback : ∀ i h p, backN ns nm stride i = some h → ρ' i = some p → rhoB ρ ρ' ns.length nm stride h = some p := fun i h p hb hp => by
    unfold backN at hb
    split at hb
    · rename_i hi
      obtain ⟨o, b, s, _, q2, _⟩ := hown h (List.mem_of_getElem? hb)
      have := hkeep i (b, s) (by rw [hlen]; exact hi) (by simp only [rhoN, hb, Option.bind_some]; exact q2)
      rw [this] at hp
      cases hp
      exact hrhoOld h _ q2
    · rename_i hi
      cases hb
      unfold rhoB
      rw [if_pos (cls_mk nm stride _)]
      have : ns.length + (nm + stride * (i - ns.length) - nm) / stride = i := by
        rw [Nat.add_sub_cancel_left, Nat.mul_div_cancel_left _ hst]; omega
      rw [this]; exact hp
  obtain ⟨hu1, hu2⟩ := backO_mem hus
  -- what is read on from here on
  have main : ∀ (I'' : Nat → Prop) (ls : List (Nat × Option Obj)), (∀ p ∈ ls, p.2 = none) →
      (∀ b, I b → I'' b) → (∀ b, I'' b → (∃ h ∈ ks, ∃ s, ρ h = some (b, s) ∧ (h, none) ∈ ls) ∨ I b ∨ (I' b ∧ (Oc b ∨ w.heap.size ≤ b))) →
      (∀ (b s : Nat) (o : Obj) (i : Nat), getO os2 i = some o → ObjR w' I' ρ' b s o → ObjR w' I'' ρ' b s o) → R w' I'' ρ' rv r →
      ∃ rv' I'' ρ'', Ending.returned rv = .returned rv' ∧ R w' I'' ρ'' rv' r' ∧ Rel w0 O I0 I'' ρ'' (applyE (getO os) nm ⟨r', none, us ++ gone os2 0 ns ++ ls⟩) (fun h => used h ∨ (cls nm stride h ∧ h ∈ effKeys ⟨r', none, us ++ gone os2 0 ns ++ ls⟩)) w' ∧ Ext w I ρ w' I'' ρ'' := by
    intro I'' ls hls hI1 hI2 hobj hrv'
    have hlentb : ∀ h ∈ ks, ∀ b s, ρ h = some (b, s) → ¬ Oc b ∧ b < w.heap.size ∧ ¬ I b ∧ (O b ∨ w0.heap.size ≤ b) := fun h hh b s hr => by
      obtain ⟨o, ho⟩ := l1 h hh
      obtain ⟨b', s', q1, q2, q3, q4⟩ := hR.obj h o ho
      rw [hr] at q1; cases q1
      refine ⟨fun ⟨h', hh', s2, hr'⟩ => ?_, q4.lt, q2, q3⟩
      obtain ⟨o', b2, s3, p1, p2, _⟩ := hown h' hh'
      rw [hr'] at p2; cases p2
      exact hR.inj h h' o o' b s b s2 ho p1 hr hr' (fun e => hdis' h hh (e ▸ hh')) rfl
    -- an object behind the call: one of the callee's, or an old one
    have hcase : ∀ h o, applyE (getO os) nm ⟨r', none, us ++ gone os2 0 ns ++ ls⟩ h = some o →
        (∃ i o2, getO os2 i = some o2 ∧ backN ns nm stride i = some h ∧ renO (backN ns nm stride) o2 = some o) ∨ (getO os h = some o ∧ h ∉ ns ∧ (h, none) ∉ ls) := fun h o hg => by
      rcases applyU_mem _ _ _ _ (show applyU (us ++ gone os2 0 ns ++ ls) (getO os) h = some o from hg) with hm | ⟨hm1, hm2⟩
      · rcases List.mem_append.1 hm with hm | hm
        · rcases List.mem_append.1 hm with hm | hm
          · obtain ⟨i, o2, o', q1, q2, q3, q4⟩ := hu1 _ hm
            cases q4
            exact .inl ⟨i, o2, honce _ q1, q2, q3⟩
          · have := (gone_mem hm).1; cases this
        · have := hls _ hm; cases this
      · refine .inr ⟨hm2, fun hn => ?_, fun hn => hm1 (h, none) (List.mem_append_right _ hn) rfl⟩
        obtain ⟨i, hi⟩ := List.getElem?_of_mem hn
        cases hq : getO os2 i with
        | none => exact hm1 _ (List.mem_append_left _ (List.mem_append_right _ (gone_has (i := 0) hi (by rw [Nat.zero_add]; exact hq)))) rfl
        | some o2 =>
          have hin : (i, o2) ∈ os2 := by
            have : ∀ (os : Objs) i o, getO os i = some o → (i, o) ∈ os := by
              intro os
              induction os with
              | nil => intro i o h; simp [getO] at h
              | cons p os ih =>
                intro i o h
                obtain ⟨j, q⟩ := p
                simp only [getO] at h
                split at h
                · rename_i e; subst e; cases h; simp
                · exact List.mem_cons_of_mem _ (ih i o h)
            exact this os2 i o2 hq
          obtain ⟨h', o', q1, q2⟩ := hu2 _ hin
          have : h' = h := by
            simp only [backN] at q1
            rw [if_pos (List.getElem?_eq_some_iff.1 hi).1, hi] at q1
            cases q1; rfl
          subst this
          exact hm1 _ (List.mem_append_left _ (List.mem_append_left _ q2)) rfl
    have hnew : ∀ i o2 h, getO os2 i = some o2 → backN ns nm stride i = some h → ∃ b s, ρ' i = some (b, s) ∧ rhoB ρ ρ' ns.length nm stride h = some (b, s) ∧ ¬ I' b ∧ (Oc b ∨ w.heap.size ≤ b) ∧ ObjR w' I' ρ' b s o2 := fun i o2 h hg hb => by
      obtain ⟨b, s, q1, q2, q3, q4⟩ := hR'.obj i o2 hg
      exact ⟨b, s, q1, hback i h _ hb q1, q2, q3, q4⟩
    have hother : ∀ h o, getO os h = some o → h ∉ ns → ∃ b s, ρ h = some (b, s) ∧ rhoB ρ ρ' ns.length nm stride h = some (b, s) ∧ ¬ I b ∧ (O b ∨ w0.heap.size ≤ b) ∧ ObjR w I ρ b s o ∧ ¬ Oc b ∧ b < w.heap.size := fun h o hg hn => by
      obtain ⟨b, s, q1, q2, q3, q4⟩ := hR.obj h o hg
      refine ⟨b, s, q1, hrhoOld h _ q1, q2, q3, q4, fun ⟨h', hh', s2, hr'⟩ => ?_, q4.lt⟩
      obtain ⟨o', b2, s3, p1, p2, _⟩ := hown h' hh'
      rw [hr'] at p2; cases p2
      exact hR.inj h h' o o' b s b s2 hg p1 q1 hr' (fun e => hn (e ▸ hh')) rfl
    have hsize : w.heap.size ≤ w'.heap.size := hR'.size
    have hext : Ext w I ρ w' I'' (rhoB ρ ρ' ns.length nm stride) :=
      ⟨fun b hb => hR'.frame b (hR.ilt b hb) (fun hO => (hOc b hO).1 hb), hR'.csz, hI1, hrhoOld⟩
    refine ⟨rv, I'', rhoB ρ ρ' ns.length nm stride, rfl, R.ren hrv' hback hr', ⟨?_, ?_, ?_, ?_, ?_, ?_, ?_, ?_, ?_, ?_, ?_⟩, hext⟩
    · rw [hR'.os]; exact hR.os
    · rw [hR'.tape]; exact hR.tape
    · rw [hR'.output]; exact hR.output
    · exact Nat.le_trans hR.size hsize
    · intro b hb hO
      rw [hR'.frame b (by have := hR.size; omega) (fun hc => by
        rcases (hOc b hc).2.1 with q | q
        · exact hO q
        · omega)]
      exact hR.frame b hb hO
    · intro b; exact Nat.le_trans (hR.csz b) (hR'.csz b)
    · intro b hb
      rcases hI2 b hb with ⟨h, hh, s, hr, _⟩ | hb | ⟨hb, _⟩
      · have := (hlentb h hh b s hr).2.1; omega
      · have := hR.ilt b hb; omega
      · exact hR'.ilt b hb
    · intro b hb
      rcases hI2 b hb with ⟨h, hh, s, hr, _⟩ | hb | ⟨_, hb | hb⟩
      · exact .inr (hlentb h hh b s hr).2.2.2
      · exact hR.isub b hb
      · exact .inr (hOc b hb).2.1
      · have := hR.size; exact .inr (.inr (by omega))
    · intro h p hp
      unfold rhoB at hp
      split at hp
      · rename_i hc
        right
        rcases hR'.dom _ _ hp with hd | hd
        · rw [hlen] at hd; exact absurd hd (Nat.not_lt.2 (Nat.le_add_right _ _))
        · obtain ⟨o2, ho2⟩ := Option.isSome_iff_exists.1 hd
          have hin : (ns.length + (h - nm) / stride, o2) ∈ os2 := by
            have : ∀ (os : Objs) i o, getO os i = some o → (i, o) ∈ os := by
              intro os
              induction os with
              | nil => intro i o h; simp [getO] at h
              | cons p os ih =>
                intro i o h
                obtain ⟨j, q⟩ := p
                simp only [getO] at h
                split at h
                · rename_i e; subst e; cases h; simp
                · exact List.mem_cons_of_mem _ (ih i o h)
            exact this os2 _ o2 ho2
          obtain ⟨h', o', q1, q2⟩ := hu2 _ hin
          have : h' = h := by
            unfold backN at q1
            rw [if_neg (Nat.not_lt.2 (Nat.le_add_right _ _))] at q1
            cases q1
            obtain ⟨i, rfl⟩ := cls_get hst hc
            rw [Nat.add_sub_cancel_left, Nat.add_sub_cancel_left, Nat.mul_div_cancel_left _ hst]
          subst this
          exact ⟨hc, List.mem_map.2 ⟨_, List.mem_append_left _ (List.mem_append_left _ q2), rfl⟩⟩
      · exact .inl (hR.dom h p hp)
    · intro h o hg
      rcases hcase h o hg with ⟨i, o2, q1, q2, q3⟩ | ⟨q1, q2, q3⟩
      · obtain ⟨b, s, p1, p2, p3, p4, p5⟩ := hnew i o2 h q1 q2
        refine ⟨b, s, p2, fun hI => ?_, ?_, (hobj b s o2 i q1 p5).ren hback q3⟩
        · rcases hI2 b hI with ⟨h', hh', s', hr', _⟩ | hI | ⟨hI, _⟩
          · obtain ⟨z1, z2, _⟩ := hlentb h' hh' b s' hr'
            rcases p4 with p4 | p4
            · exact z1 p4
            · omega
          · rcases p4 with p4 | p4
            · exact (hOc b p4).1 hI
            · have := hR.ilt b hI; omega
          · exact p3 hI
        · rcases p4 with p4 | p4
          · exact (hOc b p4).2.1
          · have := hR.size; exact .inr (by omega)
      · obtain ⟨b, s, p1, p2, p3, p4, p5, p6, p7⟩ := hother h o q1 q2
        refine ⟨b, s, p2, fun hI => ?_, p4, p5.ext hext (hR'.frame b p7 p6)⟩
        rcases hI2 b hI with ⟨h', hh', s', hr', hl'⟩ | hI | ⟨_, hI | hI⟩
        · obtain ⟨o', ho'⟩ := l1 h' hh'
          by_cases e : h = h'
          · subst e; exact q3 hl'
          · exact hR.inj h h' o o' b s b s' q1 ho' p1 hr' e rfl
        · exact p3 hI
        · exact p6 hI
        · omega
    · intro h h' o o' b s b' s' g1 g2 r1 r2 hne
      rcases hcase h o g1 with ⟨i, o2, q1, q2, q3⟩ | ⟨q1, q2, q3⟩ <;> rcases hcase h' o' g2 with ⟨i', o2', q1', q2', q3'⟩ | ⟨q1', q2', q3'⟩
      · obtain ⟨c, t, p1, p2, _⟩ := hnew i o2 h q1 q2
        obtain ⟨c', t', p1', p2', _⟩ := hnew i' o2' h' q1' q2'
        rw [r1] at p2; cases p2
        rw [r2] at p2'; cases p2'
        exact hR'.inj i i' o2 o2' b s b' s' q1 q1' p1 p1' (fun e => hne (by subst e; rw [q2] at q2'; cases q2'; rfl))
      · obtain ⟨c, t, p1, p2, _, p4, _⟩ := hnew i o2 h q1 q2
        obtain ⟨c', t', p1', p2', _, _, _, p6', p7'⟩ := hother h' o' q1' q2'
        rw [r1] at p2; cases p2
        rw [r2] at p2'; cases p2'
        rintro rfl
        rcases p4 with p4 | p4
        · exact p6' p4
        · omega
      · obtain ⟨c, t, p1, p2, _, p4, _⟩ := hnew i' o2' h' q1' q2'
        obtain ⟨c', t', p1', p2', _, _, _, p6', p7'⟩ := hother h o q1 q2
        rw [r2] at p2; cases p2
        rw [r1] at p2'; cases p2'
        rintro rfl
        rcases p4 with p4 | p4
        · exact p6' p4
        · omega
      · obtain ⟨c, t, p1, p2, _⟩ := hother h o q1 q2
        obtain ⟨c', t', p1', p2', _⟩ := hother h' o' q1' q2'
        rw [r1] at p2; cases p2
        rw [r2] at p2'; cases p2'
        exact hR.inj h h' o o' b s b' s' q1 q1' p1 p1' hne
  split
  · rename_i hcl
    simp only [Bool.or_eq_true, Bool.and_eq_true, List.all_eq_true] at hcl
    rcases hcl with hemp | ⟨hc1, hc2⟩
    · have hk0 : ks = [] := by simpa using hemp
      subst hk0
      have hI'' : ∀ b, I' b → I b ∨ (I' b ∧ (Oc b ∨ w.heap.size ≤ b)) := fun b hb => by
        rcases hR'.isub b hb with q | q | q
        · rcases q with q | ⟨h, hh, _⟩
          · exact .inl q
          · cases hh
        · exact .inr ⟨hb, .inl q⟩
        · exact .inr ⟨hb, .inr q⟩
      exact main (fun b => I b ∨ (I' b ∧ (Oc b ∨ w.heap.size ≤ b))) [] (by simp) (fun b hb => .inl hb) (fun b hb => .inr hb)
        (fun b s o i _ ho => ho.ext ⟨fun _ _ => rfl, fun _ => Nat.le_refl _, hI'', fun _ _ h => h⟩ rfl)
        (hrv.mono (fun _ _ => rfl) (fun _ => Nat.le_refl _) hI'' (fun _ _ h => h))
    · have hin : ∀ (os : Objs) i o, getO os i = some o → (i, o) ∈ os := by
        intro os
        induction os with
        | nil => intro i o h; simp [getO] at h
        | cons p os ih =>
          intro i o h
          obtain ⟨j, q⟩ := p
          simp only [getO] at h
          split at h
          · rename_i e; subst e; cases h; simp
          · exact List.mem_cons_of_mem _ (ih i o h)
      exact main (fun b => I b ∨ (I' b ∧ (Oc b ∨ w.heap.size ≤ b))) [] (by simp) (fun b hb => .inl hb) (fun b hb => .inr hb)
        (fun b s o i hg ho => ho.clean (hc2 _ (hin os2 i o hg))) (hrv.clean hc1)
  · have hI'' : ∀ b, I' b → freezeI I ρ ks b ∨ (I' b ∧ (Oc b ∨ w.heap.size ≤ b)) := fun b hb => by
      rcases hR'.isub b hb with q | q | q
      · exact .inl q
      · exact .inr ⟨hb, .inl q⟩
      · exact .inr ⟨hb, .inr q⟩
    refine main (fun b => freezeI I ρ ks b ∨ (I' b ∧ (Oc b ∨ w.heap.size ≤ b))) (kills ks) ?_ (fun b hb => .inl (.inl hb)) (fun b hb => ?_)
      (fun b s o i _ ho => ho.ext ⟨fun _ _ => rfl, fun _ => Nat.le_refl _, hI'', fun _ _ h => h⟩ rfl)
      (hrv.mono (fun _ _ => rfl) (fun _ => Nat.le_refl _) hI'' (fun _ _ h => h))
    · intro p hp
      simp only [kills, List.mem_map] at hp
      obtain ⟨h, _, rfl⟩ := hp
      rfl
    · rcases hb with (hb | ⟨h, hh, s, hr⟩) | hb
      · exact .inr (.inl hb)
      · exact .inl ⟨h, hh, s, hr, List.mem_map.2 ⟨h, hh, rfl⟩⟩
      · exact .inr (.inr hb)
end
end Go.Dm
set_option linter.unusedSimpArgs false
set_option linter.unusedVariables false
set_option linter.unusedSectionVars false
namespace Go.Dm

/-- A function that is entered. -/
def CEnt (P : Program) (cs : CallSem) : Prop := True

/-- The types whose own method of that name takes the value as it lies. -/
def invT (P : Program) (name : String) : List (TypeId × Nat) := (List.range P.types.size).filterMap fun t =>
  match P.info? t with
  | some i => (match i.methods.find? (·.name == name) with
    | some m => if m.path.toList = [] then (match m.func, P.underlying t with
      | some (f, true), some (.pointer _) => some (t, f)
      | some (_, true), _ => none
      | some (_, false), some (.pointer _) => none
      | some (f, false), some _ => some (t, f)
      | _, _ => none) else none
    | none => none)
  | none => none

def cC (P : Program) (eqs : List TypeId) : Op → Option COp
  | .call { callee := .value (.func f), args := as, argTypes := _ } => (cXs as.toList).map (.call f)
  | .call { callee := .value x, args := as, argTypes := _ } => match cX x, cXs as.toList with
    | some x, some xs => some (.callv x xs)
    | _, _ => none
  | .call { callee := .invoke x name, args := as, argTypes := _ } => match cX x, cXs as.toList with
    | some x, some xs => some (.inv (invT P name) x xs)
    | _, _ => none
  | o => (cOp P eqs o).map .op

section
variable {P : Program} {w0 w : World} {O I0 I : Nat → Prop} {ρ : Rho} {used : Nat → Prop} {gl : Nat → Option (List V)} {a : Act} {env : Nat → V} {o : Oper} {eff : Eff} {eqs : List TypeId} {os : Objs} {nm stride : Nat} {cs : CallSem} {lend : Nat → List Bool}

theorem cXs_sound (hE : EnvR w I ρ a env) : ∀ {as : List Operand} {xs : List X}, cXs as = some xs → RL w I ρ (as.map a.eval) (xs.map (evX env))
  | [], xs, h => by simp [cXs] at h; subst h; exact RL.nil
  | x :: as, xs, h => by
    simp only [cXs] at h
    split at h
    · rename_i y h1
      split at h
      · rename_i ys h2
        cases h
        exact RL.cons (cX_sound hE h1) (cXs_sound hE h2)
      · cases h
    · cases h

theorem invT_spec {name : String} {t f : Nat} (h : (invT P name).lookup t = some f) : ∀ (v : Value), (method (P.types.size + Made.depth) t v name).run P w = .ok (f, v) w := by
  intro v
  have hm : (t, f) ∈ invT P name := by
    have : ∀ (l : List (Nat × Nat)), l.lookup t = some f → (t, f) ∈ l := by
      intro l
      induction l with
      | nil => intro h; cases h
      | cons p l ih =>
        intro h
        obtain ⟨k, x⟩ := p
        simp only [List.lookup_cons] at h
        split at h
        · rename_i e; cases h; have := eq_of_beq e; subst this; simp
        · exact List.mem_cons_of_mem _ (ih h)
    exact this _ h
  unfold invT at hm
  rw [List.mem_filterMap] at hm
  obtain ⟨t', _, hm⟩ := hm
  obtain ⟨n, hn⟩ : ∃ n, P.types.size + Made.depth = n + 1 := ⟨P.types.size + Made.depth - 1, by simp only [Made.depth]; omega⟩
  rw [hn]
  split at hm
  · rename_i i hi
    split at hm
    · rename_i m hf
      split at hm
      · rename_i hp
        split at hm
        · rename_i g e hfn hu
          cases hm
          simp [method, Sem.run_bind, typeInfo, hi, hf, hp, follow, hfn, receiverAt, run_underlying hu, Place.get]
        · cases hm
        · cases hm
        · rename_i g d hnp hfn hu
          cases hm
          cases d <;> first | (exact absurd rfl (hnp _)) | simp [method, Sem.run_bind, typeInfo, hi, hf, hp, follow, hfn, receiverAt, run_underlying hu, Place.get]
        · cases hm
      · cases hm
    · cases hm
  · cases hm
end
end Go.Dm
set_option linter.unusedSimpArgs false
set_option linter.unusedVariables false
set_option linter.unusedSectionVars false
namespace Go.Dm

section
variable {P : Program} {w0 w : World} {O I0 I : Nat → Prop} {ρ : Rho} {used : Nat → Prop} {gl : Nat → Option (List V)} {a : Act} {env : Nat → V} {o : Oper} {eff : Eff} {eqs : List TypeId} {os : Objs} {nm stride : Nat} {cs : CallSem} {lend : Nat → List Bool}

/-- What is to be shown behind an operation. -/
def After (w0 : World) (O I0 : Nat → Prop) (g : Nat → Option Obj) (used : Nat → Prop) (nm stride : Nat) (w : World) (I : Nat → Prop) (ρ : Rho) (eff : Eff) (K : Value → World → Prop) : Prop :=
  ∀ cv w' I' ρ', R w' I' ρ' cv eff.v → Rel w0 O I0 I' ρ' (applyE g nm eff) (fun h => used h ∨ h = nm ∨ (cls nm stride h ∧ h ∈ effKeys eff)) w' → Ext w I ρ w' I' ρ' → K cv w'

theorem done_upon {res : Result Next} {Q : Exit → Act → World → Prop} {K : Act → World → Prop} (h : DoneAt w0 O I0 (getO os) used nm w I ρ res eff)
    (hK : After w0 O I0 (getO os) used nm stride w I ρ eff fun cv w' => K (a.put o.dst cv) w') : o.upon P a K Q res := by
  obtain ⟨r, cv, w', I', ρ', rfl, hr, hv, hR, hx⟩ := h
  have hR' : Rel w0 O I0 I' ρ' (applyE (getO os) nm eff) (fun h => used h ∨ h = nm ∨ (cls nm stride h ∧ h ∈ effKeys eff)) w' :=
    ⟨hR.os, hR.tape, hR.output, hR.size, hR.frame, hR.csz, hR.ilt, hR.isub, fun h p hp => by
      rcases hR.dom h p hp with q | q
      · exact .inl q
      · exact .inr (.inl q), hR.obj, hR.inj⟩
  rcases hr with rfl | ⟨rfl, rfl⟩
  · exact hK cv w' I' ρ' hv hR' hx
  · exact hK Go.undef w' I' ρ' hv hR' hx

theorem call_upon {f : Nat} {args : Array Value} {Q : Exit → Act → World → Prop} {K : Act → World → Prop} {vs : List V} (hx : (execOp a.eval o).run P w = (callFunc f args).run P w)
    (hC : CSnd P gl cs) (hR : Rel w0 O I0 I ρ (getO os) used w) (hnm : ∀ h, cls nm stride h → ¬ used h) (hst : 0 < stride) (hvs : RL w I ρ args.toList vs) (hG : GlR w I gl)
    (h : doCall cs lend os nm stride f vs = some eff) (hK : After w0 O I0 (getO os) used nm stride w I ρ eff fun cv w' => K (a.put o.dst cv) w') :
    o.wp P a w K Q := by
  have fin : ∀ (rv : Value) (w' : World), (∃ rv' I' ρ', Ending.returned rv = .returned rv' ∧ R w' I' ρ' rv' eff.v ∧ Rel w0 O I0 I' ρ' (applyE (getO os) nm eff) (fun h => used h ∨ (cls nm stride h ∧ h ∈ effKeys eff)) w' ∧ Ext w I ρ w' I' ρ') → K (a.put o.dst rv) w' := by
    intro rv w' he
    obtain ⟨rv', I', ρ', e, h1, h2, h3⟩ := he
    cases e
    refine hK rv w' I' ρ' h1 ⟨h2.os, h2.tape, h2.output, h2.size, h2.frame, h2.csz, h2.ilt, h2.isub, fun h p hp => ?_, h2.obj, h2.inj⟩ h3
    rcases h2.dom h p hp with q | q
    · exact .inl q
    · exact .inr (.inr q)
  unfold Oper.wp
  rcases doCall_sound hC hR hnm hst hvs hG h with ⟨he, hc⟩ | ⟨v, w', hr, hq⟩
  · rw [hx, run_callFunc he, Oper.upon_enter]
    refine hc.mono fun e w' he => ?_
    obtain ⟨rv, I', ρ', rfl, h1, h2, h3⟩ := he
    exact fin rv w' ⟨rv, I', ρ', rfl, h1, h2, h3⟩
  · rw [hx, hr, Oper.upon_value]
    exact fin v w' hq

/-- ONE OPERATION OF A REGION. -/
theorem stepC_sound {c : COp} {Q : Exit → Act → World → Prop} {K : Act → World → Prop} (hC : CSnd P gl cs) (hF : CEnt P cs) (hR : Rel w0 O I0 I ρ (getO os) used w) (hnm : ∀ h, cls nm stride h → ¬ used h) (hst : 0 < stride)
    (hE : EnvR w I ρ a env) (hG : GlR w I gl) (hts : EqTypes P eqs) (hc : cC P eqs o.op = some c) (h : stepC cs lend gl (evX env) os nm stride c = some eff)
    (hK : After w0 O I0 (getO os) used nm stride w I ρ eff fun cv w' => K (a.put o.dst cv) w') : o.wp P a w K Q := by
  have hn : ¬ used nm := hnm nm (cls_mk nm stride 0)
  have hval : ∀ {x : Operand} {as : Array Operand} {ts : Array TypeId}, o.op = .call { callee := .value x, args := as, argTypes := ts } →
      ∀ (fn : Fn) (fs cap : Array Value), a.eval x = .func fn fs cap → ∀ {f : Nat} {vs : List V}, fn = .func f → fs = #[] → RL w I ρ cap.toList vs → ∀ {xs : List X}, cXs as.toList = some xs → doCall cs lend os nm stride f (xs.map (evX env) ++ vs) = some eff → o.wp P a w K Q := by
    intro x as ts ho fn fs cap hx f vs hfn hfs hcap xs hxs hd
    subst hfn; subst hfs
    have hrun : (execOp a.eval o).run P w = (callFunc f (as.map a.eval ++ cap)).run P w := by
      simp only [execOp, ho, resolve, hx, Deferred.ofValue, Sem.run_bind, Sem.run_pure, Result.andThen_ok, invoke, Array.empty_append]
    refine call_upon hrun hC hR hnm hst ?_ hG hd hK
    rw [Array.toList_append, Array.toList_map]
    exact (cXs_sound hE hxs).append hcap
  have hrest : (cOp P eqs o.op).map COp.op = some c → o.wp P a w K Q := by
    intro hc
    obtain ⟨d, hd, rfl⟩ := Option.map_eq_some_iff.1 hc
    simp only [stepC] at h
    exact done_upon (cOp_sound hR hn hE hG hts hd h) hK
  unfold cC at hc
  split at hc
  · rename_i f as ts ho
    obtain ⟨xs, hxs, rfl⟩ := Option.map_eq_some_iff.1 hc
    simp only [stepC] at h
    exact hval ho (.func f) #[] #[] rfl (vs := []) rfl rfl RL.nil hxs (by rw [List.append_nil]; exact h)
  · rename_i x as ts _ ho
    split at hc
    · rename_i x' xs h1 h2
      cases hc
      simp only [stepC] at h
      split at h
      · rename_i f caps hx
        have := cX_sound hE h1
        rw [hx] at this
        obtain ⟨cap, hcap, hr⟩ := inv_fn this
        exact hval ho (.func f) #[] cap hcap rfl rfl hr h2 h
      · cases h
    · cases hc
  · rename_i x name as ts ho
    split at hc
    · rename_i x' xs h1 h2
      cases hc
      simp only [stepC] at h
      split at h
      · rename_i t v hx
        split at h
        · rename_i f hl
          have := cX_sound hE h1
          rw [hx] at this
          obtain ⟨u, hu, hr⟩ := inv_iface this
          have hrun : (execOp a.eval o).run P w = (callFunc f (#[u] ++ as.map a.eval)).run P w := by
            simp only [execOp, ho, resolve, hu, Sem.run_bind, Sem.run_pure, Result.andThen_ok, invoke]
            simp only [Array.getElem?_append, Array.size_singleton, Nat.zero_lt_one, if_true]
            simp only [callMethod, Sem.run_bind]
            have e1 : (#[Value.iface t u] ++ as.map a.eval).extract 1 (#[Value.iface t u] ++ as.map a.eval).size = as.map a.eval := by
              apply Array.toList_inj.1
              simp [List.take_of_length_le]
            have hm := invT_spec (P := P) (w := w) hl u
            have e2 : (as.map a.eval).extract 0 as.size = as.map a.eval := by
              apply Array.toList_inj.1
              simp [List.take_of_length_le]
            simp [hm, Sem.run_bind, e2]
          refine call_upon hrun hC hR hnm hst ?_ hG h hK
          rw [Array.toList_append, Array.toList_map]
          exact RL.cons hr (cXs_sound hE h2)
        · cases h
      · cases h
    · cases hc
  · exact hrest hc
end
end Go.Dm
set_option linter.unusedSimpArgs false
set_option linter.unusedVariables false
set_option linter.unusedSectionVars false
namespace Go.Dm

theorem evL_eq (env : List V) : evL env = evX fun t => env.getD t .undef := by
  funext x; cases x <;> rfl

/-- A state of the abstract machine is that of the world and of the function's slots. -/
structure SR (gl : Nat → Option (List V)) (w0 : World) (O I0 : Nat → Prop) (ρ0 : Rho) (kept : Nat) (env : List V) (os : Objs) (used : Nat → Prop) (w : World) (a : Act) (I : Nat → Prop) (ρ : Rho) : Prop where
  rel : Rel w0 O I0 I ρ (getO os) used w
  envr : EnvR w I ρ a fun t => env.getD t .undef
  len : env.length = a.tmps.size
  glr : GlR w I gl
  keep : ∀ i p, i < kept → ρ0 i = some p → ρ i = some p
  dfr : a.defers = []

theorem put_getD (a : Act) (d : Nat) (v : Value) (t : Nat) (hd : d < a.tmps.size) : (a.put (some d) v).tmps.getD t Go.undef = if t = d then v else a.tmps.getD t Go.undef := by
  simp only [Act.put]
  by_cases h : t = d
  · subst h; simp [Array.getD_eq_getD_getElem?, hd]
  · simp [Array.getD_eq_getD_getElem?, Array.getElem?_setIfInBounds_ne (Ne.symm h), h]
theorem set_getD (env : List V) (d : Nat) (v : V) (t : Nat) (hd : d < env.length) : (env.set d v).getD t .undef = if t = d then v else env.getD t .undef := by
  by_cases h : t = d
  · subst h; simp [List.getD_eq_getElem?_getD, hd]
  · simp [List.getD_eq_getElem?_getD, List.getElem?_set_ne (Ne.symm h), h]

section
variable {P : Program} {w0 w : World} {O I0 I : Nat → Prop} {ρ0 ρ : Rho} {used : Nat → Prop} {gl : Nat → Option (List V)} {a : Act} {env : List V} {eff : Eff} {eqs : List TypeId} {os : Objs} {nm stride kept : Nat} {cs : CallSem} {lend : Nat → List Bool}

theorem EnvR.put (hE : EnvR w I ρ a fun t => env.getD t .undef) (hl : env.length = a.tmps.size) (dst : Option Nat) {v : Value} {x : V} (hv : R w I ρ v x) :
    EnvR w I ρ (a.put dst v) (fun t => (putE env dst x).getD t .undef) ∧ (putE env dst x).length = (a.put dst v).tmps.size := by
  cases dst with
  | none => exact ⟨hE, hl⟩
  | some d =>
    refine ⟨fun t => ?_, by simp [putE, Act.put, hl]⟩
    by_cases hd : d < env.length
    · have h1 := set_getD env d x t hd
      have h2 := put_getD a d v t (by omega)
      show R w I ρ ((a.put (some d) v).tmps.getD t Go.undef) ((env.set d x).getD t .undef)
      rw [h1, h2]
      split
      · exact hv
      · exact hE t
    · have h1 : env.set d x = env := List.set_eq_of_length_le (by omega)
      have h2 : a.tmps.setIfInBounds d v = a.tmps := by
        apply Array.ext_getElem?
        intro j
        by_cases hj : j = d
        · subst hj; rw [Array.getElem?_eq_none (by simp; omega), Array.getElem?_eq_none (by omega)]
        · rw [Array.getElem?_setIfInBounds_ne (Ne.symm hj)]
      show R w I ρ ((a.tmps.setIfInBounds d v).getD t Go.undef) ((env.set d x).getD t .undef)
      rw [h1, h2]
      exact hE t

theorem SR.skip (h : SR gl w0 O I0 ρ0 kept env os used w a I ρ) (dst : Option Nat) : SR gl w0 O I0 ρ0 kept (putE env dst (.tup [])) os used w (a.put dst Go.undef) I ρ := by
  obtain ⟨h1, h2⟩ := h.envr.put h.len dst (v := Go.undef) (x := .tup []) (RL.tup #[] [] RL.nil RL.nil)
  exact ⟨h.rel, h1, h2, h.glr, h.keep, by cases dst <;> exact h.dfr⟩

theorem SR.after (h : SR gl w0 O I0 ρ0 kept env os used w a I ρ) (dst : Option Nat) {cv : Value} {w' : World} {I' : Nat → Prop} {ρ' : Rho} (hv : R w' I' ρ' cv eff.v)
    (hR : Rel w0 O I0 I' ρ' (applyE (getO os) nm eff) (fun h => used h ∨ h = nm ∨ (cls nm stride h ∧ h ∈ effKeys eff)) w') (hx : Ext w I ρ w' I' ρ') :
    SR gl w0 O I0 ρ0 kept (putE env dst eff.v) (effO os nm eff) (fun h => used h ∨ h = nm ∨ (cls nm stride h ∧ h ∈ effKeys eff)) w' (a.put dst cv) I' ρ' := by
  obtain ⟨h1, h2⟩ := EnvR.put (fun t => hx.rl (h.envr t)) h.len dst hv
  exact ⟨by rw [getO_eff]; exact hR, h1, h2, h.glr.ext hx, fun i p hi hp => hx.rho i p (h.keep i p hi hp), by cases dst <;> exact h.dfr⟩

/-- The guards, by the slots. -/
def cGuard (ops : Array Oper) : Option (Nat × Bool) → Option (Option (Nat × Bool))
  | none => some none
  | some (j, b) => ((ops[j]?).bind (·.dst)).map fun t => some (t, b)

theorem wantD_sound {ops : Array Oper} {o : Oper} {gd : Option (Nat × Bool)} (hE : EnvR w I ρ a fun t => env.getD t .undef) (hg : cGuard ops o.guard = some gd) {b : Bool} (h : wantD env gd = some b) :
    Region.wanted o (yielded ops a.tmps) = b := by
  unfold Region.wanted
  cases hgu : o.guard with
  | none =>
    rw [hgu] at hg
    simp only [cGuard, Option.some.injEq] at hg
    subst hg
    simp only [wantD, Option.some.injEq] at h
    exact h
  | some p =>
    obtain ⟨j, want⟩ := p
    rw [hgu] at hg
    simp only [cGuard] at hg
    obtain ⟨t, ht, rfl⟩ := Option.map_eq_some_iff.1 hg
    simp only [wantD] at h
    have hv : R w I ρ (a.tmps.getD t Go.undef) (env.getD t .undef) := hE t
    simp only [yielded, ht, Option.bind_some]
    split at h
    · rename_i c hc
      cases h
      rw [hc] at hv
      have := inv_bool hv
      have ht' : a.tmps[t]? = some (.bool c) := by
        rw [Array.getD_eq_getD_getElem?] at this
        cases hq : a.tmps[t]? with
        | none => rw [hq] at this; simp [Go.undef] at this
        | some x => rw [hq] at this; simp at this; rw [this]
      rw [ht']
      simp
    · rename_i hc
      cases h
      rw [hc] at hv
      obtain ⟨arr, harr, hr⟩ := inv_tup hv
      rw [Array.getD_eq_getD_getElem?] at harr
      cases hq : a.tmps[t]? with
      | none => rfl
      | some x =>
        rw [hq] at harr
        simp at harr
        subst harr
        rfl
    · cases h

/-- An operation, translated: its lists are the hint's. -/
def cDO (P : Program) (eqs : List TypeId) (ops : Array Oper) (src : Nat) (vis conf : List Nat) (still : Bool) : Option DO :=
  match ops[src]? with
  | none => none
  | some o => match cC P eqs o.op, cGuard ops o.guard with
    | some c, some gd => some ⟨o.dst, c, gd, src, vis, conf, still⟩
    | _, _ => none
theorem cDO_some {ops : Array Oper} {src : Nat} {vis conf : List Nat} {still : Bool} {d : DO} (h : cDO P eqs ops src vis conf still = some d) :
    ∃ o, ops[src]? = some o ∧ cC P eqs o.op = some d.op ∧ cGuard ops o.guard = some d.guard ∧ d.dst = o.dst ∧ d.src = src ∧ d.vis = vis ∧ d.conf = conf ∧ d.still = still := by
  unfold cDO at h
  split at h
  · cases h
  · rename_i o ho
    split at h
    · rename_i c gd h1 h2
      cases h
      exact ⟨o, ho, h1, h2, rfl, rfl, rfl, rfl, rfl⟩
    · cases h

def cSeq (P : Program) (eqs : List TypeId) (ops : Array Oper) : Nat → Nat → Option (List DO)
  | 0, _ => some []
  | n + 1, j => match cDO P eqs ops j [] [] false, cSeq P eqs ops n (j + 1) with
    | some d, some r => some (d :: r)
    | _, _ => none

theorem topK_le : ∀ (us : List (Nat × Option Obj)) (b : Nat), b ≤ topK b us ∧ ∀ p ∈ us, p.1 < topK b us
  | [], b => ⟨Nat.le_refl _, by simp⟩
  | (k, o) :: r, b => by
    obtain ⟨h1, h2⟩ := topK_le r (if k < b then b else k + 1)
    have hb : b ≤ (if k < b then b else k + 1) ∧ k < (if k < b then b else k + 1) := by split <;> omega
    simp only [topK]
    refine ⟨by omega, fun p hp => ?_⟩
    simp only [List.mem_cons] at hp
    rcases hp with rfl | hp
    · have := hb.2; show k < _; omega
    · exact h2 p hp

/-- The names given so far, in a region of n operations of which j are done. -/
def Given (base n j nx : Nat) (used : Nat → Prop) : Prop := (∀ h, used h → h < nx) ∧ base + n ≤ nx ∧ ∀ h, used h → h < base ∨ (base ≤ h ∧ (h - base) % n < j)

theorem Given.free {base n j nx : Nat} (hg : Given base n j nx used) (hj : j < n) : ∀ h, cls (base + j) n h → ¬ used h := by
  intro h hc hu
  obtain ⟨i, rfl⟩ := cls_get (by omega) hc
  rcases hg.2.2 _ hu with q | ⟨q1, q2⟩
  · omega
  · rw [show base + j + n * i - base = j + n * i by omega, Nat.add_mul_mod_self_left, Nat.mod_eq_of_lt hj] at q2
    omega

theorem Given.step {base n j nx : Nat} (hg : Given base n j nx used) (hj : j < n) :
    Given base n (j + 1) (topK nx eff.upds) fun h => used h ∨ h = base + j ∨ (cls (base + j) n h ∧ h ∈ effKeys eff) := by
  obtain ⟨h1, h2, h3⟩ := hg
  obtain ⟨t1, t2⟩ := topK_le eff.upds nx
  refine ⟨fun h hh => ?_, by omega, fun h hh => ?_⟩
  · rcases hh with hh | hh | ⟨_, hh⟩
    · have := h1 h hh; omega
    · omega
    · obtain ⟨p, hp, rfl⟩ := List.mem_map.1 hh
      exact t2 p hp
  · have hcl : ∀ h, cls (base + j) n h → base ≤ h ∧ (h - base) % n < j + 1 := fun h hc => by
      obtain ⟨i, rfl⟩ := cls_get (by omega) hc
      refine ⟨by omega, ?_⟩
      rw [show base + j + n * i - base = j + n * i by omega, Nat.add_mul_mod_self_left, Nat.mod_eq_of_lt hj]
      omega
    have hold : ∀ h, used h → h < base ∨ (base ≤ h ∧ (h - base) % n < j + 1) := fun h hh => by
      rcases h3 h hh with q | ⟨q1, q2⟩
      · exact .inl q
      · exact .inr ⟨q1, by omega⟩
    rcases hh with hh | hh | ⟨hh, _⟩
    · exact hold h hh
    · subst hh; exact .inr (hcl _ (cls_mk _ _ 0))
    · exact .inr (hcl h hh)
theorem Given.skip {base n j nx : Nat} (hg : Given base n j nx used) : Given base n (j + 1) nx used :=
  ⟨hg.1, hg.2.1, fun h hh => by
    rcases hg.2.2 h hh with q | ⟨q1, q2⟩
    · exact .inl q
    · exact .inr ⟨q1, by omega⟩⟩

/-- A REGION WHOSE OPERATIONS STAND IN ORDER. -/
theorem runSeq_sound {ops : Array Oper} {base n : Nat} {Q : Exit → Act → World → Prop} (hC : CSnd P gl cs) (hF : CEnt P cs) (hts : EqTypes P eqs) :
    ∀ (m j : Nat) (ds : List DO) (env : List V) (os : Objs) (nx : Nat) (used : Nat → Prop) (w : World) (a : Act) (I : Nat → Prop) (ρ : Rho) (env' : List V) (os' : Objs) (nx' : Nat),
      cSeq P eqs ops m j = some ds → j + m = n → runSeq cs lend gl base n j ds env os nx = some (env', os', nx') → SR gl w0 O I0 ρ0 kept env os used w a I ρ → Given base n j nx used →
      (∀ w' a' I' ρ' used', SR gl w0 O I0 ρ0 kept env' os' used' w' a' I' ρ' → (∀ h, used' h → h < nx') → Q .normal a' w') →
      wpOps P ops Q (List.range' j m) a w
  | 0, j, ds, env, os, nx, used, w, a, I, ρ, env', os', nx', hc, hn, hr, hs, hg, hQ => by
    simp only [cSeq, Option.some.injEq] at hc
    subst hc
    simp only [runSeq, Option.some.injEq, Prod.mk.injEq] at hr
    obtain ⟨rfl, rfl, rfl⟩ := hr
    exact hQ w a I ρ used hs hg.1
  | m + 1, j, ds, env, os, nx, used, w, a, I, ρ, env', os', nx', hc, hn, hr, hs, hg, hQ => by
    simp only [cSeq] at hc
    split at hc
    case h_2 => cases hc
    rename_i d r hd hcr
    cases hc
    obtain ⟨o, ho, h1, h2, h3, _⟩ := cDO_some hd
    simp only [runSeq] at hr
    rw [List.range'_succ]
    simp only [wpOps, ho]
    split at hr
    · rename_i hw
      rw [wantD_sound (o := o) hs.envr h2 hw, if_pos rfl]
      split at hr
      · rename_i e he
        left
        rw [evL_eq] at he
        refine stepC_sound hC hF hs.rel (hg.free (by omega)) (by omega) hs.envr hs.glr hts h1 he ?_
        intro cv w' I' ρ' q1 q2 q3
        have hs' := hs.after o.dst q1 q2 q3
        rw [← h3] at hs' ⊢
        exact runSeq_sound hC hF hts m (j + 1) r _ _ _ _ w' _ I' ρ' env' os' nx' hcr (by omega) hr hs' (hg.step (by omega)) hQ
      · cases hr
    · rename_i hw
      rw [wantD_sound (o := o) hs.envr h2 hw]
      simp only [Bool.false_eq_true, if_false]
      have hs' := hs.skip o.dst
      rw [← h3] at hs' ⊢
      exact runSeq_sound hC hF hts m (j + 1) r _ _ _ _ w _ I ρ env' os' nx' hcr (by omega) hr hs' hg.skip hQ
    · cases hr
end
end Go.Dm
set_option linter.unusedSimpArgs false
set_option linter.unusedVariables false
set_option linter.unusedSectionVars false
namespace Go.Dm

theorem subV_one (h : Nat) (es : List V) (s : Nat) (v : V) : (subV h es s v).one = v.one := by
  cases v with
  | hs k o l => simp only [subV]; by_cases hh : k = h ∧ o + l ≤ es.length <;> simp [hh, V.one]
  | _ => rfl
theorem subL_flat (h : Nat) (es : List V) (s : Nat) : ∀ {xs : List V}, flatL xs → flatL (subL h es s xs)
  | [], _ => by intro y hy; simp [subL] at hy
  | x :: xs, hf => by
    intro y hy
    simp only [subL, List.mem_cons] at hy
    rcases hy with rfl | hy
    · rw [subV_one]; exact hf x (by simp)
    · exact subL_flat h es s (fun z hz => hf z (by simp [hz])) y hy
theorem subL_length (h : Nat) (es : List V) (s : Nat) : ∀ (xs : List V), (subL h es s xs).length = xs.length
  | [] => rfl
  | x :: xs => by simp [subL, subL_length h es s xs]
theorem subL_getD (h : Nat) (es : List V) (s : Nat) : ∀ (xs : List V) (t : Nat), (subL h es s xs).getD t .undef = subV h es s (xs.getD t .undef)
  | [], t => by simp [subL, subV]
  | x :: xs, 0 => by simp [subL]
  | x :: xs, t + 1 => by have := subL_getD h es s xs t; simpa [subL] using this

section
variable {w0 w : World} {O I0 I : Nat → Prop} {ρ : Rho} {used : Nat → Prop}

theorem RL.sub {h b s : Nat} {es : List V} {cs : Array Value} {e : TypeId} {fr : Nat × Nat} (hI : I b) (hb : w.heap[b]? = some (.cells cs e fr)) (hw : ∀ x ∈ es, x.width = s) (hfl : flatL (cellsL es))
    (hrow : RL w I rho0 (cs.toList.take (cellsL es).length) (cellsL es)) {vs : List Value} {xs : List V} (hr : RL w I ρ vs xs) (hρ : ρ h = some (b, s)) : RL w I ρ vs (subL h es s xs) := by
  induction hr with
  | nil => exact .nil
  | iface t v x _ _ ih1 ih => exact .iface _ _ _ (ih1 hρ) (ih hρ)
  | agg a ys q _ _ ih1 ih => exact .agg _ _ (subL_flat h es s q) (ih1 hρ) (ih hρ)
  | tup a ys _ _ ih1 ih => exact .tup _ _ (ih1 hρ) (ih hρ)
  | fn g a ys _ _ ih1 ih => exact .fn _ _ _ (ih1 hρ) (ih hρ)
  | hs k off len b' s' cap q1 q2 q3 _ ih =>
    simp only [subL, subV]
    split
    · rename_i hh
      obtain ⟨rfl, hle⟩ := hh
      rw [hρ] at q1
      cases q1
      have hlen : ((es.drop off).take len).length = len := by simp; omega
      have hat := at_take hb (cellsL es).length
      have h1 := (hat.drop (off * s)).take (len * s)
      rw [Nat.zero_add] at h1
      have hc : cellsL ((es.drop off).take len) = ((cellsL es).drop (off * s)).take (len * s) := by
        rw [cellsL_take _ (mem_width_drop hw off), cellsL_drop _ hw]
      have h2 := (hrow.drop (off * s)).take (len * s)
      rw [← hc] at h2
      have hfl2 : flatL (cellsL ((es.drop off).take len)) := by
        rw [hc]; exact fun y hy => hfl y (List.mem_of_mem_drop (List.mem_of_mem_take hy))
      have := RL.sl1 (w := w) (I := I) (ρ := _) b (off * s) cap s ((es.drop off).take len) _ (by omega) (mem_width_take (mem_width_drop hw off) len) hfl2 hI h1 h2 (ih hρ)
      rwa [hlen] at this
    · exact .hs _ _ _ _ _ _ q1 q2 q3 (ih hρ)
  | hs0 a k off b' s' q1 _ ih =>
    simp only [subL, subV]
    split
    · rw [List.take_zero]; exact .sl0 _ _ _ (ih hρ)
    · exact .hs0 _ _ _ _ _ q1 (ih hρ)
  | hp _ _ _ _ _ q1 _ ih => exact .hp _ _ _ _ _ q1 (ih hρ)
  | hm _ _ _ q1 _ ih => exact .hm _ _ _ q1 (ih hρ)
  | undef _ _ ih => exact .undef _ (ih hρ)
  | bool _ _ ih => exact .bool _ (ih hρ)
  | int _ _ _ ih => exact .int _ _ (ih hρ)
  | str _ _ ih => exact .str _ (ih hρ)
  | nilp _ ih => exact .nilp (ih hρ)
  | nils _ _ ih => exact .nils _ (ih hρ)
  | nilm _ ih => exact .nilm (ih hρ)
  | nili _ ih => exact .nili (ih hρ)
  | nilf _ ih => exact .nilf (ih hρ)
  | gp _ _ _ ih => exact .gp _ _ (ih hρ)
  | sl0 _ _ _ _ ih => exact .sl0 _ _ _ (ih hρ)
  | sl1 b o cap s es cs q1 q2 q3 q4 q5 q6 _ _ ih => exact .sl1 _ _ _ _ _ _ q1 q2 q3 q4 q5 q6 (ih hρ)
  | pt b o xs cs q1 q2 q3 q4 _ _ ih => exact .pt _ _ _ _ q1 q2 q3 q4 (ih hρ)

theorem getO_sub (h : Nat) (es : List V) (s : Nat) : ∀ (os : Objs) (k : Nat), getO (subO h es s os) k = (getO os k).map fun o => match o with
    | .box cs => .box (subL h es s cs)
    | o => o
  | [], k => rfl
  | (j, o) :: r, k => by
    have ih := getO_sub h es s r k
    cases o <;> simp only [subO, getO] <;> (split <;> first | rfl | exact ih)

theorem frz1_sound {gl : Nat → Option (List V)} {ρ0 : Rho} {kept : Nat} {s : St} {a : Act} (h : Nat) (hS : SR gl w0 O I0 ρ0 kept s.env s.objs used w a I ρ) :
    ∃ I', SR gl w0 O I0 ρ0 kept (frz1 s h).env (frz1 s h).objs used w a I' ρ := by
  unfold frz1
  split
  case h_2 => exact ⟨I, hS⟩
  rename_i es k hg
  obtain ⟨b, s', q1, q2, q3, rfl, q5, q0, cs, e, fr, q6, q7, q8⟩ := hS.rel.obj h _ hg
  obtain ⟨f1, f2⟩ := hS.rel.freeze h _ b k hg q1
  generalize hI' : (fun c => I c ∨ c = b) = I' at f1 f2
  have hIb : I' b := by rw [← hI']; exact .inr rfl
  have hrow := f2.rl0 q8
  have sub : ∀ {vs : List Value} {xs : List V}, RL w I' ρ vs xs → RL w I' ρ vs (subL h es k xs) := fun hr => RL.sub hIb q6 q5 q0 hrow hr q1
  refine ⟨I', ⟨⟨f1.os, f1.tape, f1.output, f1.size, f1.frame, f1.csz, f1.ilt, f1.isub, f1.dom, fun j o hj => ?_, fun i j o o' b s b' s' g1 g2 => ?_⟩, fun t => ?_, ?_, hS.glr.ext f2, hS.keep, hS.dfr⟩⟩
  · rw [getO_sub, getO_del] at hj
    obtain ⟨o0, ho, rfl⟩ := Option.map_eq_some_iff.1 hj
    obtain ⟨c, t, p1, p2, p3, p4⟩ := f1.obj j o0 ho
    refine ⟨c, t, p1, p2, p3, ?_⟩
    cases o0 with
    | row _ _ => exact p4
    | mp _ => exact p4
    | box xs =>
      obtain ⟨z0, cs0, e0, fr0, z1, z2, z3⟩ := p4
      exact ⟨subL_flat _ _ _ z0, cs0, e0, fr0, z1, z2, sub z3⟩
  · rw [getO_sub, getO_del] at g1 g2
    obtain ⟨o1, ho1, _⟩ := Option.map_eq_some_iff.1 g1
    obtain ⟨o2, ho2, _⟩ := Option.map_eq_some_iff.1 g2
    exact f1.inj i j o1 o2 b s b' s' ho1 ho2
  · show R w I' ρ (a.tmps.getD t Go.undef) ((subL h es k s.env).getD t .undef)
    rw [subL_getD]
    have := sub (f2.rl (hS.envr t))
    simpa [subL] using this
  · rw [subL_length]; exact hS.len

theorem frzT_sound {gl : Nat → Option (List V)} {ρ0 : Rho} {kept : Nat} {a : Act} (ts : List Nat) : ∀ (s : St) (I : Nat → Prop), SR gl w0 O I0 ρ0 kept s.env s.objs used w a I ρ →
    (∃ I', SR gl w0 O I0 ρ0 kept (ts.foldl frzT s).env (ts.foldl frzT s).objs used w a I' ρ) ∧ (ts.foldl frzT s).nxt = s.nxt ∧ (ts.foldl frzT s).kept = s.kept := by
  have one : ∀ (hs : List Nat) (s : St) (I : Nat → Prop), SR gl w0 O I0 ρ0 kept s.env s.objs used w a I ρ →
      (∃ I', SR gl w0 O I0 ρ0 kept (hs.foldl frz1 s).env (hs.foldl frz1 s).objs used w a I' ρ) ∧ (hs.foldl frz1 s).nxt = s.nxt ∧ (hs.foldl frz1 s).kept = s.kept := by
    intro hs
    induction hs with
    | nil => intro s I hS; exact ⟨⟨I, hS⟩, rfl, rfl⟩
    | cons h hs ih =>
      intro s I hS
      obtain ⟨I', hS'⟩ := frz1_sound h hS
      obtain ⟨a1, a2, a3⟩ := ih (frz1 s h) I' hS'
      have e1 : (frz1 s h).nxt = s.nxt := by unfold frz1; split <;> rfl
      have e2 : (frz1 s h).kept = s.kept := by unfold frz1; split <;> rfl
      exact ⟨a1, a2.trans e1, a3.trans e2⟩
  induction ts with
  | nil => intro s I hS; exact ⟨⟨I, hS⟩, rfl, rfl⟩
  | cons t ts ih =>
    intro s I hS
    obtain ⟨⟨I', hS'⟩, b1, b2⟩ := one (hands [] (s.env.getD t .undef)) s I hS
    obtain ⟨a1, a2, a3⟩ := ih (frzT s t) I' hS'
    exact ⟨a1, a2.trans b1, a3.trans b2⟩
end
end Go.Dm
set_option linter.unusedSimpArgs false
set_option linter.unusedVariables false
set_option linter.unusedSectionVars false
namespace Go.Dm

/-- More objects. -/
def LeO (g g' : Nat → Option Obj) : Prop := ∀ h o, g h = some o → g' h = some o

section
variable {g g' : Nat → Option Obj}

theorem viewL_mono (hle : LeO g g') {s : Nat} {v : V} {es : List V} (h : viewL g s v = some es) : viewL g' s v = some es := by
  cases v <;> simp only [viewL] at h ⊢ <;> try exact h
  rename_i k off len
  cases hg : g k with
  | none => simp [hg] at h
  | some o => rw [hle _ _ hg]; rwa [hg] at h

theorem deep_mono (hle : LeO g g') : ∀ (n : Nat) (v : V) (p : V × List Nat), deep g n v = some p → deep g' n v = some p := by
  have lists : ∀ m, (∀ v p, deep g m v = some p → deep g' m v = some p) → ∀ xs p, deepW (deep g m) xs = some p → deepW (deep g' m) xs = some p := by
    intro m ih xs
    induction xs with
    | nil => intro p h; simpa only [deepW] using h
    | cons x xs ihx =>
      intro p h
      simp only [deepW] at h ⊢
      cases h1 : deep g m x with
      | none => simp [h1] at h
      | some q =>
        rw [ih _ _ h1]
        simp only [h1] at h ⊢
        cases h2 : deepW (deep g m) xs with
        | none => simp [h2] at h
        | some r => rw [ihx _ h2]; simpa only [h2] using h
  intro n
  induction n with
  | zero => intro v p h; simp [deep] at h
  | succ n ih =>
    intro v p h
    cases v with
    | hs k off len =>
      simp only [deep] at h ⊢
      cases hg : g k with
      | none => simp [hg] at h
      | some o => rw [hle _ _ hg]; rwa [hg] at h
    | hp k i f =>
      simp only [deep] at h ⊢
      cases hg : g k with
      | none => simp [hg] at h
      | some o =>
        rw [hle _ _ hg]
        rw [hg] at h
        cases o with
        | box cs =>
          simp only at h ⊢
          split at h
          · rename_i hif
            rw [if_pos hif]
            obtain ⟨q, hq, rfl⟩ := Option.map_eq_some_iff.1 h
            rw [lists n ih _ _ hq]; rfl
          · cases h
        | _ => exact h
    | iface t x =>
      simp only [deep] at h ⊢
      obtain ⟨q, hq, rfl⟩ := Option.map_eq_some_iff.1 h
      rw [ih _ _ hq]; rfl
    | agg cs =>
      simp only [deep] at h ⊢
      obtain ⟨q, hq, rfl⟩ := Option.map_eq_some_iff.1 h
      rw [lists n ih _ _ hq]; rfl
    | _ => simpa only [deep] using h

/-- What it kills was there. -/
theorem deep_keys : ∀ (n : Nat) (v : V) (p : V × List Nat), deep g n v = some p → ∀ k ∈ p.2, (g k).isSome = true := by
  have lists : ∀ m, (∀ v p, deep g m v = some p → ∀ k ∈ p.2, (g k).isSome = true) → ∀ xs p, deepW (deep g m) xs = some p → ∀ k ∈ p.2, (g k).isSome = true := by
    intro m ih xs
    induction xs with
    | nil => intro p h k hk; simp [deepW] at h; subst h; cases hk
    | cons x xs ihx =>
      intro p h k hk
      simp only [deepW] at h
      split at h
      · rename_i h1
        split at h
        · rename_i h2
          cases h
          rcases List.mem_append.1 hk with hk | hk
          · exact ih _ _ h1 k hk
          · exact ihx _ h2 k hk
        · cases h
      · cases h
  intro n
  induction n with
  | zero => intro v p h; simp [deep] at h
  | succ n ih =>
    intro v p h k hk
    cases v with
    | hs j off len =>
      simp only [deep] at h
      split at h
      · rename_i hg
        split at h
        · cases h; simp at hk; subst hk; simp [hg]
        · cases h
      · cases h
    | hp j i f =>
      simp only [deep] at h
      split at h
      · rename_i hg
        split at h
        · obtain ⟨q, hq, rfl⟩ := Option.map_eq_some_iff.1 h
          simp only [List.mem_cons] at hk
          rcases hk with rfl | hk
          · simp [hg]
          · exact lists n ih _ _ hq k hk
        · cases h
      · cases h
    | iface t x =>
      simp only [deep] at h
      obtain ⟨q, hq, rfl⟩ := Option.map_eq_some_iff.1 h
      exact ih _ _ hq k hk
    | agg cs =>
      simp only [deep] at h
      obtain ⟨q, hq, rfl⟩ := Option.map_eq_some_iff.1 h
      exact lists n ih _ _ hq k hk
    | undef => simp [deep] at h
    | tup _ => simp [deep] at h
    | hm _ => simp [deep] at h
    | fn _ _ => simp [deep] at h
    | _ => simp only [deep, Option.some.injEq] at h; subst h; cases hk

theorem deepParts_mono (hle : LeO g g') : ∀ (ps : List (Nat × V)) (p : List (Nat × V) × List Nat), deepParts g ps = some p → deepParts g' ps = some p
  | [], p, h => h
  | (i, v) :: r, p, h => by
    simp only [deepParts] at h ⊢
    cases h1 : deep g 6 v with
    | none => simp [h1] at h
    | some q =>
      rw [deep_mono hle _ _ _ h1]
      simp only [h1] at h ⊢
      cases h2 : deepParts g r with
      | none => simp [h2] at h
      | some q2 => rw [deepParts_mono hle _ _ h2]; simpa only [h2] using h
theorem deepParts_keys : ∀ (ps : List (Nat × V)) (p : List (Nat × V) × List Nat), deepParts g ps = some p → ∀ k ∈ p.2, (g k).isSome = true
  | [], p, h, k, hk => by simp [deepParts] at h; subst h; cases hk
  | (i, v) :: r, p, h, k, hk => by
    simp only [deepParts] at h
    split at h
    · rename_i h1
      split at h
      · rename_i h2
        cases h
        rcases List.mem_append.1 hk with hk | hk
        · exact deep_keys _ _ _ h1 k hk
        · exact deepParts_keys _ _ h2 k hk
      · cases h
    · cases h

theorem loadV_mono (hle : LeO g g') {n : Nat} {agg : Bool} {v x : V} (h : loadV g n agg v = some x) : loadV g' n agg v = some x := by
  cases v <;> simp only [loadV] at h ⊢ <;> try exact h
  rename_i k i f
  cases hg : g k with
  | none => simp [hg] at h
  | some o => rw [hle _ _ hg]; rwa [hg] at h
theorem iaddrV_mono (hle : LeO g g') {arr : Option Nat} {s i : Nat} {v x : V} (h : iaddrV g arr s i v = some x) : iaddrV g' arr s i v = some x := by
  cases v <;> simp only [iaddrV] at h ⊢ <;> try exact h
  · rename_i k off len
    cases hg : g k with
    | none => simp [hg] at h
    | some o => rw [hle _ _ hg]; rwa [hg] at h
  · rename_i k j f
    cases hg : g k with
    | none => cases arr <;> simp [hg] at h
    | some o => rw [hle _ _ hg]; rwa [hg] at h
theorem slcLV_mono (hle : LeO g g') {s lo : Nat} {hi : Option Nat} {v x : V} (h : slcLV g s v lo hi = some x) : slcLV g' s v lo hi = some x := by
  cases v <;> simp only [slcLV] at h ⊢ <;> try exact h
  rename_i k off len
  cases hg : g k with
  | none => simp [hg] at h
  | some o => rw [hle _ _ hg]; rwa [hg] at h
theorem slcAV_mono (hle : LeO g g') {n s lo : Nat} {hi : Option Nat} {v x : V} (h : slcAV g n s lo hi v = some x) : slcAV g' n s lo hi v = some x := by
  cases v <;> simp only [slcAV] at h ⊢ <;> try exact h
  rename_i k i f
  cases hg : g k with
  | none => simp [hg] at h
  | some o => rw [hle _ _ hg]; rwa [hg] at h
theorem lenMV_mono (hle : LeO g g') {v : V} {x : Nat} (h : lenMV g v = some x) : lenMV g' v = some x := by
  cases v <;> simp only [lenMV] at h ⊢ <;> try exact h
  rename_i j
  cases hg : g j with
  | none => simp [hg] at h
  | some o => rw [hle j o hg]; simpa [hg] using h
theorem lookV_mono (hle : LeO g g') {kd : Nat} {k v : V} {x : Option V} (h : lookV g kd k v = some x) : lookV g' kd k v = some x := by
  cases v <;> simp only [lookV] at h ⊢ <;> try exact h
  rename_i q
  cases hg : g q with
  | none => simp [hg] at h
  | some o => rw [hle _ _ hg]; rwa [hg] at h
theorem appV_mono (hle : LeO g g') {s b nm : Nat} {v : V} {ys : List V} {e : Eff} (h : appV g s b nm v ys = some e) : appV g' s b nm v ys = some e := by
  cases v <;> simp only [appV] at h ⊢ <;> try exact h
  rename_i k off len
  cases hg : g k with
  | none => simp [hg] at h
  | some o => rw [hle _ _ hg]; rwa [hg] at h
theorem cpyV_mono (hle : LeO g g') {s : Nat} {v : V} {ys : List V} {e : Eff} (h : cpyV g s v ys = some e) : cpyV g' s v ys = some e := by
  cases v <;> simp only [cpyV] at h ⊢ <;> try exact h
  rename_i k off len
  cases hg : g k with
  | none => simp [hg] at h
  | some o => rw [hle _ _ hg]; rwa [hg] at h
theorem storeV_mono (hle : LeO g g') {n : Nat} {v p : V} {us : List (Nat × Option Obj)} (h : storeV g n v p = some us) : storeV g' n v p = some us := by
  cases p <;> simp only [storeV] at h ⊢ <;> try exact h
  rename_i k i f
  cases hg : g k with
  | none => simp [hg] at h
  | some o =>
    rw [hle _ _ hg]
    rw [hg] at h
    cases o with
    | box cs => exact h
    | mp es => exact h
    | row es s =>
      simp only at h ⊢
      cases hd : deep g 6 v with
      | none => simp only [hd] at h; (repeat' split at h) <;> cases h
      | some q => rw [deep_mono hle _ _ _ hd]; rwa [hd] at h

theorem step_mono (hle : LeO g g') {ev : X → V} {gl : Nat → Option (List V)} {nm : Nat} {d : DOp} {e : Eff} (h : step ev g gl nm d = some e) : step ev g' gl nm d = some e := by
  cases d <;> simp only [step] at h ⊢ <;> try exact h
  case b2s x =>
    cases hv : viewL g 1 (ev x) with
    | none => simp [hv] at h
    | some q => rw [viewL_mono hle hv]; simpa only [hv] using h
  case box s x =>
    split
    · rename_i h0; rw [if_pos h0] at h; exact h
    · rename_i h0
      rw [if_neg h0] at h
      cases hd : deep g 6 (ev x) with
      | none => simp [hd] at h
      | some q => rw [deep_mono hle _ _ _ hd]; simpa only [hd] using h
  case bsl s base parts =>
    cases hd : deepParts g (parts.map fun p => (p.1, ev p.2)) with
    | none => simp [hd] at h
    | some q => rw [deepParts_mono hle _ _ hd]; simpa only [hd] using h
  case load n agg x =>
    split at h
    · exact h
    · obtain ⟨q, hq, rfl⟩ := Option.map_eq_some_iff.1 h
      rw [loadV_mono hle hq]; rfl
  case store n x v =>
    obtain ⟨q, hq, rfl⟩ := Option.map_eq_some_iff.1 h
    rw [storeV_mono hle hq]; rfl
  case iaddr arr s x i =>
    split at h
    · split at h
      · rename_i h0
        rw [if_pos h0]
        obtain ⟨q, hq, rfl⟩ := Option.map_eq_some_iff.1 h
        rw [iaddrV_mono hle hq]; rfl
      · cases h
    · cases h
  case slcL s x lo hi =>
    split at h
    · obtain ⟨q, hq, rfl⟩ := Option.map_eq_some_iff.1 h
      rw [slcLV_mono hle hq]; rfl
    · split at h
      · split at h
        · rename_i h0
          rw [if_pos h0]
          obtain ⟨q, hq, rfl⟩ := Option.map_eq_some_iff.1 h
          rw [slcLV_mono hle hq]; rfl
        · cases h
      · cases h
    · cases h
  case slcA n s x lo hi =>
    split at h
    · obtain ⟨q, hq, rfl⟩ := Option.map_eq_some_iff.1 h
      rw [slcAV_mono hle hq]; rfl
    · split at h
      · split at h
        · rename_i h0
          rw [if_pos h0]
          obtain ⟨q, hq, rfl⟩ := Option.map_eq_some_iff.1 h
          rw [slcAV_mono hle hq]; rfl
        · cases h
      · cases h
    · cases h
  case app s b x y =>
    cases hv : viewL g s (ev y) with
    | none => simp [hv] at h
    | some q =>
      rw [viewL_mono hle hv]
      simp only [hv] at h ⊢
      exact appV_mono hle h
  case appS b x y =>
    split at h
    · exact appV_mono hle h
    · cases h
  case appZ s b z x y =>
    split at h
    · split at h
      · rename_i h0
        rw [if_pos h0]
        exact appV_mono hle h
      · cases h
    · cases h
  case cpy s x y =>
    cases hv : viewL g s (ev y) with
    | none => simp [hv] at h
    | some q =>
      rw [viewL_mono hle hv]
      simp only [hv] at h ⊢
      exact cpyV_mono hle h
  case lenM x =>
    split at h
    · rename_i n hn; rw [lenMV_mono hle hn]; exact h
    · cases h
  case look kd z ok x k =>
    obtain ⟨q, hq, rfl⟩ := Option.map_eq_some_iff.1 h
    rw [lookV_mono hle hq]; rfl
  case mset kd n x k v =>
    split at h
    · rename_i j hj
      cases hg : g j with
      | none => simp [hg] at h
      | some o =>
        rw [hle _ _ hg]
        cases hd : deep g 6 (ev v) with
        | none => cases o <;> simp [hg, hd] at h
        | some q => rw [deep_mono hle _ _ _ hd]; rwa [hg, hd] at h
    · cases h

theorem kills_keys {ks : List Nat} {p : Nat × Option Obj} (h : p ∈ kills ks) : p.1 ∈ ks := by
  simp only [kills, List.mem_map] at h
  obtain ⟨k, hk, rfl⟩ := h
  exact hk
theorem appV_keys {s b nm : Nat} {v : V} {ys : List V} {e : Eff} (h : appV g s b nm v ys = some e) : ∀ p ∈ e.upds, (g p.1).isSome = true := by
  unfold appV at h
  split at h
  · split at h
    · cases h; intro p hp; cases hp
    · split at h
      · cases h; intro p hp; cases hp
      · cases h
  · split at h
    · rename_i hg
      split at h
      · cases h; intro p hp; simp at hp; subst hp; simp [hg]
      · cases h
    · cases h
  · cases h
theorem storeV_keys {n : Nat} {v p : V} {us : List (Nat × Option Obj)} (h : storeV g n v p = some us) : ∀ p ∈ us, (g p.1).isSome = true := by
  unfold storeV at h
  split at h
  · rename_i k i f
    cases hg : g k with
    | none => simp [hg] at h
    | some o =>
      rw [hg] at h
      have hk : (g k).isSome = true := by simp [hg]
      cases o with
      | box cs =>
        simp only at h
        split at h
        · cases h; intro p hp; simp at hp; subst hp; exact hk
        · cases h
      | mp es => simp at h
      | row es s =>
        simp only at h
        cases hd : deep g 6 v with
        | none => simp only [hd] at h; (repeat' split at h) <;> cases h
        | some q =>
          have hks := deep_keys _ _ _ hd
          simp only [hd] at h
          have fin : ∀ (o : Option Obj) (p : Nat × Option Obj), p ∈ (k, o) :: kills q.2 → (g p.1).isSome = true := by
            intro o p hp
            simp only [List.mem_cons] at hp
            rcases hp with rfl | hp
            · exact hk
            · exact hks _ (kills_keys hp)
          obtain ⟨y, ks⟩ := q
          simp only at h fin
          (repeat' split at h) <;> first | (cases h; done) | (cases h; exact fin _) | (rename_i hq _; cases hq; cases h; exact fin _)
  · cases h

theorem step_keys {ev : X → V} {gl : Nat → Option (List V)} {nm : Nat} {d : DOp} {e : Eff} (h : step ev g gl nm d = some e) : ∀ p ∈ e.upds, (g p.1).isSome = true := by
  have hval : ∀ {v : V}, e = .val v → ∀ p ∈ e.upds, (g p.1).isSome = true := fun he p hp => by subst he; cases hp
  cases d <;> simp only [step] at h
  case store n x v =>
    obtain ⟨q, hq, rfl⟩ := Option.map_eq_some_iff.1 h
    exact storeV_keys hq
  case box s x =>
    split at h
    · split at h
      · cases h; intro p hp; cases hp
      · cases h
    · split at h
      · rename_i hd
        cases h
        intro p hp
        exact deep_keys _ _ _ hd _ (kills_keys hp)
      · cases h
  case bsl s base parts =>
    split at h
    · rename_i hd
      split at h
      · split at h
        · cases h; intro p hp; exact deepParts_keys _ _ hd _ (kills_keys hp)
        · cases h; intro p hp; exact deepParts_keys _ _ hd _ (kills_keys hp)
      · cases h
    · cases h
  case app s b x y =>
    split at h
    · exact appV_keys h
    · cases h
  case appS b x y =>
    split at h
    · exact appV_keys h
    · cases h
  case appZ s b z x y =>
    split at h
    · split at h
      · exact appV_keys h
      · cases h
    · cases h
  case cpy s x y =>
    split at h
    · unfold cpyV at h
      split at h
      · cases h; intro p hp; cases hp
      · split at h
        · rename_i hg
          split at h
          · cases h; intro p hp; simp at hp; subst hp; simp [hg]
          · cases h
        · cases h
      · cases h
    · cases h
  case mset kd n x k v =>
    split at h
    · split at h
      · rename_i hg hd
        split at h
        · obtain ⟨q, hq, rfl⟩ := Option.map_eq_some_iff.1 h
          intro p hp
          simp only [List.mem_cons] at hp
          rcases hp with rfl | hp
          · simp [hg]
          · exact deep_keys _ _ _ hd _ (kills_keys hp)
        · cases h
      · cases h
    · cases h
  all_goals
    first
      | (cases h; exact hval rfl)
      | (obtain ⟨q, hq, rfl⟩ := Option.map_eq_some_iff.1 h; exact hval rfl)
      | ((repeat' split at h) <;> first | (cases h; done) | (cases h; intro p hp; cases hp) | (obtain ⟨q, hq, rfl⟩ := Option.map_eq_some_iff.1 h; intro p hp; cases hp))
end
end Go.Dm
set_option linter.unusedSimpArgs false
set_option linter.unusedVariables false
set_option linter.unusedSectionVars false
namespace Go.Dm

section
variable {os os' : Objs}

theorem lendA_mono {g g' : Nat → Option Obj} (hle : LeO g g') : ∀ (bs : List Bool) (vs : List V) (p : List V × List Nat), lendA g bs vs = some p → lendA g' bs vs = some p := by
  intro bs
  induction bs with
  | nil => intro vs p h; simpa only [lendA] using h
  | cons b bs ih =>
    intro vs p h
    cases vs with
    | nil => cases b <;> simpa only [lendA] using h
    | cons v vs =>
      cases b with
      | true =>
        simp only [lendA] at h ⊢
        cases h1 : deep g 6 v with
        | none => simp [h1] at h
        | some q =>
          cases h2 : lendA g bs vs with
          | none => simp [h1, h2] at h
          | some r =>
            rw [deep_mono hle _ _ _ h1, ih _ _ h2]
            simpa only [h1, h2] using h
      | false =>
        simp only [lendA] at h ⊢
        obtain ⟨q, hq, rfl⟩ := Option.map_eq_some_iff.1 h
        rw [ih _ _ hq]; rfl
theorem lendA_keys {g : Nat → Option Obj} : ∀ (bs : List Bool) (vs : List V) (p : List V × List Nat), lendA g bs vs = some p → ∀ k ∈ p.2, (g k).isSome = true := by
  intro bs
  induction bs with
  | nil => intro vs p h k hk; simp only [lendA, Option.some.injEq] at h; subst h; cases hk
  | cons b bs ih =>
    intro vs p h k hk
    cases vs with
    | nil => cases b <;> (simp only [lendA, Option.some.injEq] at h; subst h; cases hk)
    | cons v vs =>
      cases b with
      | true =>
        simp only [lendA] at h
        split at h
        · rename_i h1 h2
          cases h
          rcases List.mem_append.1 hk with hk | hk
          · exact deep_keys _ _ _ h1 k hk
          · exact ih _ _ h2 k hk
        · cases h
      | false =>
        simp only [lendA] at h
        obtain ⟨q, hq, rfl⟩ := Option.map_eq_some_iff.1 h
        exact ih _ _ hq k hk

theorem Pre.mem {a b : List Nat} (h : Pre a b) {x : Nat} (hx : x ∈ a) : x ∈ b := by
  obtain ⟨⟨t, rfl⟩, _⟩ := h
  exact List.mem_append_left _ hx
theorem reach_mono (hle : LeO (getO os) (getO os')) : ∀ (n i : Nat) (ns : List Nat), (∀ h ∈ reach os n i ns, (getO os h).isSome = true) → reach os' n i ns = reach os n i ns
  | 0, i, ns, _ => rfl
  | n + 1, i, ns, h => by
    unfold reach at h ⊢
    cases hi : ns[i]? with
    | none => rfl
    | some k =>
      simp only [hi] at h ⊢
      have hk : k ∈ reach os n (i + 1) (handsO ns (getO os k)) := (reach_pre os n _ _).mem ((handsO_pre ns _).mem (List.mem_of_getElem? hi))
      obtain ⟨o, ho⟩ := Option.isSome_iff_exists.1 (h k hk)
      rw [hle _ _ ho, ← ho]
      exact reach_mono hle n (i + 1) _ h
theorem hasAll_mono (hle : LeO (getO os) (getO os')) : ∀ {ns : List Nat}, hasAll os ns = true → hasAll os' ns = true
  | [], _ => rfl
  | h :: r, he => by
    simp only [hasAll, Bool.and_eq_true] at he ⊢
    obtain ⟨o, ho⟩ := Option.isSome_iff_exists.1 he.1
    exact ⟨by rw [hle _ _ ho]; rfl, hasAll_mono hle he.2⟩
theorem packO_mono (hle : LeO (getO os) (getO os')) {f : Nat → Option Nat} : ∀ {ns : List Nat} {i : Nat}, hasAll os ns = true → packO os' f i ns = packO os f i ns
  | [], _, _ => rfl
  | h :: r, i, he => by
    simp only [hasAll, Bool.and_eq_true] at he
    obtain ⟨o, ho⟩ := Option.isSome_iff_exists.1 he.1
    simp only [packO]
    rw [hle _ _ ho, ho, packO_mono hle he.2]
theorem pack_mono (hle : LeO (getO os) (getO os')) {vs : List V} {p : List Nat × List V × Objs} (h : pack os vs = some p) : pack os' vs = some p := by
  unfold pack at h ⊢
  simp only at h ⊢
  split at h
  · rename_i h1 h2 h3
    rw [reach_mono hle _ _ _ (hasAll_mem h1), hasAll_mono hle h1, h2, packO_mono hle h1, h3]
    exact h
  · cases h

variable {cs : CallSem} {lend : Nat → List Bool} {nm stride f : Nat} {vs : List V} {e : Eff}

theorem doCall_mono (hle : LeO (getO os) (getO os')) (h : doCall cs lend os nm stride f vs = some e) : doCall cs lend os' nm stride f vs = some e := by
  unfold doCall at h ⊢
  split at h
  · cases h
  rename_i hl
  rw [lendA_mono hle _ _ _ hl]
  simp only
  split at h
  · cases h
  rename_i hp
  rw [pack_mono hle hp]
  exact h

theorem stepC_mono (hle : LeO (getO os) (getO os')) {gl : Nat → Option (List V)} {ev : X → V} {c : COp} (h : stepC cs lend gl ev os nm stride c = some e) : stepC cs lend gl ev os' nm stride c = some e := by
  cases c with
  | op d => exact step_mono hle h
  | call f xs => exact doCall_mono hle h
  | callv x xs =>
    simp only [stepC] at h ⊢
    split at h
    · exact doCall_mono hle h
    · cases h
  | inv tab x xs =>
    simp only [stepC] at h ⊢
    split at h
    · split at h
      · exact doCall_mono hle h
      · cases h
    · cases h

theorem doCall_keys (h : doCall cs lend os nm stride f vs = some e) : ∀ p ∈ e.upds, (getO os p.1).isSome = true ∨ cls nm stride p.1 := by
  unfold doCall at h
  split at h
  · cases h
  rename_i vs1 ks hl
  split at h
  · cases h
  rename_i ns vs2 os1 hp
  split at h
  · cases h
  split at h
  · cases h
  rename_i r os2 hcs
  split at h
  case h_2 => cases h
  rename_i r' us hr' hus
  cases h
  unfold pack at hp
  simp only at hp
  split at hp
  case h_2 => cases hp
  rename_i hall _ _
  cases hp
  have hns := hasAll_mem hall
  have hks := lendA_keys _ _ _ hl
  intro p hp
  simp only [List.append_assoc, List.mem_append] at hp
  rcases hp with hp | hp | hp
  · obtain ⟨i, o, o', _, h2, _⟩ := (backO_mem hus).1 p hp
    unfold backN at h2
    split at h2
    · exact .inl (hns _ (List.mem_of_getElem? h2))
    · right
      have := Option.some.inj h2
      rw [← this]
      exact cls_mk _ _ _
  · exact .inl (hns _ (gone_mem hp).2)
  · split at hp
    · cases hp
    · exact .inl (hks _ (kills_keys hp))

theorem stepC_keys {gl : Nat → Option (List V)} {ev : X → V} {c : COp} (h : stepC cs lend gl ev os nm stride c = some e) : ∀ p ∈ e.upds, (getO os p.1).isSome = true ∨ cls nm stride p.1 := by
  cases c with
  | op d => exact fun p hp => .inl (step_keys h p hp)
  | call f xs => exact doCall_keys h
  | callv x xs =>
    simp only [stepC] at h
    split at h
    · exact doCall_keys h
    · cases h
  | inv tab x xs =>
    simp only [stepC] at h
    split at h
    · split at h
      · exact doCall_keys h
      · cases h
    · cases h

/-- Operations that do not look at objects. -/
def blind : COp → Bool
  | .op d => match d with
    | .mov _ | .pick .. | .bin .. | .eqv .. | .un .. | .conv .. | .s2s .. | .mki .. | .build .. | .fld .. | .faddr .. | .idxS .. | .idxA .. | .slcS .. | .lenS .. | .lenL .. | .mnx .. | .ext .. | .nilchk .. | .eqa .. | .asrt .. | .s2ap .. => true
    | .load _ _ (.c (.gp _ _)) => true
    | _ => false
  | _ => false
/-- Operations that make none and change none. -/
def quiet : COp → Bool
  | .op d => match d with
    | .load .. | .iaddr .. | .slcL .. | .slcA .. | .b2s .. | .look .. | .lenM .. => true
    | _ => blind (.op d)
  | _ => false
/-- Operations that change none. -/
def calm : COp → Bool
  | .op d => match d with
    | .alloc _ | .s2b _ | .mksl .. | .mkmap => true
    | .box s _ => s == 0
    | _ => quiet (.op d)
  | _ => false

end
end Go.Dm
set_option linter.unusedSimpArgs false
set_option linter.unusedVariables false
set_option linter.unusedSectionVars false
namespace Go.Dm

def oXs : Option X → List X
  | some x => [x]
  | none => []
/-- What an operation looks at. -/
def dXs : DOp → List X
  | .mov x | .un _ x | .conv _ x | .s2b x | .b2s x | .s2s x | .mki _ x | .box _ x | .load _ _ x | .fld _ _ _ x | .faddr _ x | .lenS x | .lenL x | .lenM x | .ext _ x | .nilchk x | .s2ap _ x | .asrt _ _ _ _ _ x => [x]
  | .pick a b c => [a, b, c]
  | .bin _ x y | .eqv _ _ _ _ x y | .mnx _ x y | .app _ _ x y | .appS _ x y | .appZ _ _ _ x y | .cpy _ x y | .eqa _ _ x y | .idxS x y | .idxA _ _ _ x y | .iaddr _ _ x y | .store _ x y | .mksl _ _ _ x y | .look _ _ _ x y => [x, y]
  | .build _ ps => ps.map fun p => p.2.2
  | .bsl _ _ ps => ps.map fun p => p.2
  | .slcS x a b | .slcL _ x a b | .slcA _ _ x a b => [x] ++ oXs a ++ oXs b
  | .mset _ _ x y z => [x, y, z]
  | .alloc _ | .mkmap => []
def cXsOf : COp → List X
  | .op d => dXs d
  | .call _ xs => xs
  | .callv x xs => x :: xs
  | .inv _ x xs => x :: xs

theorem bound_congr {ev ev' : X → V} {d : Nat} {o : Option X} (h : ∀ x ∈ oXs o, ev x = ev' x) : bound d ev o = bound d ev' o := by
  cases o with
  | none => rfl
  | some x => simp only [bound]; rw [h x (by simp [oXs])]

theorem step_congr {ev ev' : X → V} {g : Nat → Option Obj} {gl : Nat → Option (List V)} {nm : Nat} {d : DOp} (h : ∀ x ∈ dXs d, ev x = ev' x) : step ev g gl nm d = step ev' g gl nm d := by
  cases d with
  | build z ps =>
    simp only [step, dXs, List.mem_map] at h ⊢
    have : ps.map (fun p => (p.1, p.2.1, ev p.2.2)) = ps.map (fun p => (p.1, p.2.1, ev' p.2.2)) := List.map_congr_left fun p hp => by rw [h _ ⟨p, hp, rfl⟩]
    rw [this]
  | bsl s b ps =>
    simp only [step, dXs, List.mem_map] at h ⊢
    have : ps.map (fun p => (p.1, ev p.2)) = ps.map (fun p => (p.1, ev' p.2)) := List.map_congr_left fun p hp => by rw [h _ ⟨p, hp, rfl⟩]
    rw [this]
  | slcS x lo hi =>
    simp only [step, dXs] at h ⊢
    rw [h x (by simp), bound_congr (o := lo) fun y hy => h y (by simp [hy])]
    split
    · rw [bound_congr (o := hi) fun y hy => h y (by simp [hy])]
    · rfl
  | slcL s x lo hi =>
    simp only [step, dXs] at h ⊢
    rw [h x (by simp), bound_congr (o := lo) fun y hy => h y (by simp [hy])]
    cases hi with
    | none => cases bound 0 ev' lo <;> rfl
    | some y => have hy := h y (by simp [oXs]); cases bound 0 ev' lo <;> simp only [hy]
  | slcA n s x lo hi =>
    simp only [step, dXs] at h ⊢
    rw [h x (by simp), bound_congr (o := lo) fun y hy => h y (by simp [hy])]
    cases hi with
    | none => cases bound 0 ev' lo <;> rfl
    | some y => have hy := h y (by simp [oXs]); cases bound 0 ev' lo <;> simp only [hy]
  | pick a b c => simp only [step, dXs] at h ⊢; rw [h a (by simp), h b (by simp), h c (by simp)]
  | mset kd n x k v => simp only [step, dXs] at h ⊢; rw [h x (by simp), h k (by simp), h v (by simp)]
  | alloc o => rfl
  | mkmap => rfl
  | bin op x y => simp only [step, dXs] at h ⊢; rw [h x (by simp), h y (by simp)]
  | eqv _ _ _ _ x y => simp only [step, dXs] at h ⊢; rw [h x (by simp), h y (by simp)]
  | mnx _ x y => simp only [step, dXs] at h ⊢; rw [h x (by simp), h y (by simp)]
  | app _ _ x y => simp only [step, dXs] at h ⊢; rw [h x (by simp), h y (by simp)]
  | appS _ x y => simp only [step, dXs] at h ⊢; rw [h x (by simp), h y (by simp)]
  | appZ _ _ _ x y => simp only [step, dXs] at h ⊢; rw [h x (by simp), h y (by simp)]
  | cpy _ x y => simp only [step, dXs] at h ⊢; rw [h x (by simp), h y (by simp)]
  | eqa _ _ x y => simp only [step, dXs] at h ⊢; rw [h x (by simp), h y (by simp)]
  | idxS x y => simp only [step, dXs] at h ⊢; rw [h x (by simp), h y (by simp)]
  | idxA _ _ _ x y => simp only [step, dXs] at h ⊢; rw [h x (by simp), h y (by simp)]
  | iaddr _ _ x y => simp only [step, dXs] at h ⊢; rw [h x (by simp), h y (by simp)]
  | store _ x y => simp only [step, dXs] at h ⊢; rw [h x (by simp), h y (by simp)]
  | mksl _ _ _ x y => simp only [step, dXs] at h ⊢; rw [h x (by simp), h y (by simp)]
  | look _ _ _ x y => simp only [step, dXs] at h ⊢; rw [h x (by simp), h y (by simp)]
  | mov x => simp only [step, dXs] at h ⊢; rw [h x (by simp)]
  | un _ x => simp only [step, dXs] at h ⊢; rw [h x (by simp)]
  | conv _ x => simp only [step, dXs] at h ⊢; rw [h x (by simp)]
  | s2b x => simp only [step, dXs] at h ⊢; rw [h x (by simp)]
  | b2s x => simp only [step, dXs] at h ⊢; rw [h x (by simp)]
  | s2s x => simp only [step, dXs] at h ⊢; rw [h x (by simp)]
  | mki _ x => simp only [step, dXs] at h ⊢; rw [h x (by simp)]
  | box _ x => simp only [step, dXs] at h ⊢; rw [h x (by simp)]
  | load _ _ x => simp only [step, dXs] at h ⊢; rw [h x (by simp)]
  | fld _ _ _ x => simp only [step, dXs] at h ⊢; rw [h x (by simp)]
  | faddr _ x => simp only [step, dXs] at h ⊢; rw [h x (by simp)]
  | lenS x => simp only [step, dXs] at h ⊢; rw [h x (by simp)]
  | lenL x => simp only [step, dXs] at h ⊢; rw [h x (by simp)]
  | lenM x => simp only [step, dXs] at h ⊢; rw [h x (by simp)]
  | ext _ x => simp only [step, dXs] at h ⊢; rw [h x (by simp)]
  | nilchk x => simp only [step, dXs] at h ⊢; rw [h x (by simp)]
  | s2ap _ x => simp only [step, dXs] at h ⊢; rw [h x (by simp)]
  | asrt _ _ _ _ _ x => simp only [step, dXs] at h ⊢; rw [h x (by simp)]

section
variable {cs : CallSem} {lend : Nat → List Bool} {gl : Nat → Option (List V)} {os os' : Objs} {nm nm' stride stride' : Nat} {ev ev' : X → V}

theorem stepC_congr {c : COp} (h : ∀ x ∈ cXsOf c, ev x = ev' x) : stepC cs lend gl ev os nm stride c = stepC cs lend gl ev' os nm stride c := by
  cases c with
  | op d => exact step_congr h
  | call f xs => simp only [stepC]; rw [show xs.map ev = xs.map ev' from List.map_congr_left h]
  | callv x xs =>
    simp only [stepC]
    rw [h x (by simp [cXsOf]), List.map_congr_left fun y hy => h y (by simp [cXsOf, hy])]
  | inv tab x xs =>
    simp only [stepC]
    rw [h x (by simp [cXsOf]), List.map_congr_left fun y hy => h y (by simp [cXsOf, hy])]

theorem blind_spec {c : COp} (hev : ∀ v, ev (.c v) = v) (hb : blind c = true) : stepC cs lend gl ev os nm stride c = stepC cs lend gl ev os' nm' stride' c := by
  cases c with
  | op d =>
    cases d <;> first | (simp [blind] at hb; done) | rfl | skip
    rename_i n agg x
    cases x with
    | t n => simp [blind] at hb
    | c v => cases v <;> first | (simp [blind] at hb; done) | simp only [stepC, step, hev]
  | _ => simp [blind] at hb

theorem quiet_spec {c : COp} {e : Eff} (hb : quiet c = true) (h : stepC cs lend gl ev os nm stride c = some e) : e.upds = [] ∧ e.new = none := by
  cases c with
  | op d =>
    simp only [stepC] at h
    cases d <;> first | (simp [quiet, blind] at hb; done) | skip
    all_goals simp only [step] at h
    all_goals
      first
        | (cases h; exact ⟨rfl, rfl⟩)
        | (obtain ⟨q, hq, rfl⟩ := Option.map_eq_some_iff.1 h; exact ⟨rfl, rfl⟩)
        | ((repeat' split at h) <;> first | (cases h; done) | (cases h; exact ⟨rfl, rfl⟩) | (obtain ⟨q, hq, rfl⟩ := Option.map_eq_some_iff.1 h; exact ⟨rfl, rfl⟩))
  | _ => simp [quiet] at hb
theorem calm_spec {c : COp} {e : Eff} (hb : calm c = true) (h : stepC cs lend gl ev os nm stride c = some e) : e.upds = [] := by
  have hq : quiet c = true → e.upds = [] := fun hq => (quiet_spec hq h).1
  cases c with
  | op d =>
    cases d <;> first | exact hq hb | skip
    all_goals simp only [stepC, step] at h
    case alloc => cases h; rfl
    case mkmap => cases h; rfl
    case box s x =>
      have hs : s = 0 := by simpa [calm] using hb
      rw [if_pos hs] at h
      split at h
      · cases h; rfl
      · cases h
    all_goals ((repeat' split at h) <;> first | (cases h; done) | (cases h; rfl))
  | _ => simp [calm] at hb
end
end Go.Dm
set_option linter.unusedSimpArgs false
set_option linter.unusedVariables false
set_option linter.unusedSectionVars false
namespace Go.Dm

/-- The slots behind some of a region's operations. -/
def envS (S : Nat → Bool) : Nat → List DO → List Eff → List V → List V
  | p, d :: ds, e :: es, env => envS S (p + 1) ds es (if S p then putE env d.dst e.v else env)
  | _, _, _, env => env
/-- The objects behind some of a region's operations. -/
def objS (S : Nat → Bool) (base : Nat) : Nat → List Eff → Objs → Objs
  | p, e :: es, os => objS S base (p + 1) es (if S p then effO os (base + p) e else os)
  | _, [], os => os
def nxS : List Eff → Nat → Nat
  | [], nx => nx
  | e :: es, nx => nxS es (topK nx e.upds)

def noEff : Eff := ⟨.tup [], none, []⟩

section
variable {cs : CallSem} {lend : Nat → List Bool} {gl : Nat → Option (List V)}

/-- What one operation of a drawn region has told. -/
def Told (cs : CallSem) (lend : Nat → List Bool) (gl : Nat → Option (List V)) (base n : Nat) (os0 : Objs) (es : List Eff) (env : List V) (p : Nat) (d : DO) (e : Eff) : Prop :=
  (wantD env d.guard = some true ∧ stepC cs lend gl (evL env) (confO (es.take p) d.conf (visO base (es.take p) d.vis os0)) (base + p) n d.op = some e ∧ (d.still = true → e.upds = [])) ∨
  (wantD env d.guard = some false ∧ e = noEff)

theorem envS_all (S : Nat → Bool) : ∀ (p : Nat) (ds : List DO) (es : List Eff) (env : List V), (∀ q, p ≤ q → S q = true) → ds.length = es.length → envS S p ds es env = envS (fun _ => true) p ds es env
  | p, [], [], env, _, _ => rfl
  | p, d :: ds, e :: es, env, h, hl => by
    simp only [envS]
    rw [h p (Nat.le_refl _)]
    exact envS_all S (p + 1) ds es _ (fun q hq => h q (by omega)) (by simpa using hl)
  | p, [], _ :: _, env, _, hl => by simp at hl
  | p, _ :: _, [], env, _, hl => by simp at hl

/-- All that a drawn region's run has told. -/
theorem runDrw_told {base n : Nat} {os0 : Objs} : ∀ (ds : List DO) (p : Nat) (env : List V) (os : Objs) (nx : Nat) (es0 : List Eff) (env' : List V) (os' : Objs) (nx' : Nat),
    runDrw cs lend gl base n os0 p ds env os nx es0 = some (env', os', nx') → es0.length = p →
    ∃ es, es.length = ds.length ∧ env' = envS (fun _ => true) p ds es env ∧ os' = objS (fun _ => true) base p es os ∧ nx' = nxS es nx ∧
      ∀ k d e, ds[k]? = some d → es[k]? = some e → Told cs lend gl base n os0 (es0 ++ es) (envS (fun q => decide (q < p + k)) p ds es env) (p + k) d e
  | [], p, env, os, nx, es0, env', os', nx', h, hp => by
    simp only [runDrw, Option.some.injEq, Prod.mk.injEq] at h
    obtain ⟨rfl, rfl, rfl⟩ := h
    exact ⟨[], rfl, rfl, rfl, rfl, fun k d e h => by simp at h⟩
  | d :: ds, p, env, os, nx, es0, env', os', nx', h, hp => by
    simp only [runDrw] at h
    have next : ∀ e, Told cs lend gl base n os0 es0 env p d e → runDrw cs lend gl base n os0 (p + 1) ds (putE env d.dst e.v) (effO os (base + p) e) (topK nx e.upds) (es0 ++ [e]) = some (env', os', nx') →
        ∃ es, es.length = (d :: ds).length ∧ env' = envS (fun _ => true) p (d :: ds) es env ∧ os' = objS (fun _ => true) base p es os ∧ nx' = nxS es nx ∧
          ∀ k d' e, (d :: ds)[k]? = some d' → es[k]? = some e → Told cs lend gl base n os0 (es0 ++ es) (envS (fun q => decide (q < p + k)) p (d :: ds) es env) (p + k) d' e := by
      intro e ht hr
      obtain ⟨es, h1, h2, h3, h4, h5⟩ := runDrw_told ds (p + 1) _ _ _ _ env' os' nx' hr (by simp [hp])
      refine ⟨e :: es, by simp [h1], by simpa only [envS, if_true] using h2, by simpa only [objS, if_true] using h3, by simpa only [nxS] using h4, fun k d' e' hk he => ?_⟩
      cases k with
      | zero =>
        simp only [List.getElem?_cons_zero, Option.some.injEq] at hk he
        subst hk; subst he
        have e1 : envS (fun q => decide (q < p + 0)) p (d :: ds) (e :: es) env = env := by
          have : ∀ (q : Nat) (ds : List DO) (es : List Eff) (env : List V), p ≤ q → envS (fun q => decide (q < p + 0)) q ds es env = env := by
            intro q ds
            induction ds generalizing q with
            | nil => intro es env _; cases es <;> rfl
            | cons d ds ih =>
              intro es env hq
              cases es with
              | nil => rfl
              | cons e es =>
                simp only [envS]
                rw [if_neg (by simp; omega)]
                exact ih (q + 1) es env (by omega)
          exact this p _ _ _ (Nat.le_refl _)
        rw [e1]
        unfold Told at ht ⊢
        have e2 : (es0 ++ e :: es).take (p + 0) = es0.take p := by
          rw [Nat.add_zero, List.take_append_of_le_length (by omega)]
        rw [e2]
        exact ht
      | succ k =>
        have := h5 k d' e' (by simpa using hk) (by simpa using he)
        rw [show p + 1 + k = p + (k + 1) by omega] at this
        simp only [List.append_assoc, List.singleton_append] at this
        have e1 : envS (fun q => decide (q < p + (k + 1))) p (d :: ds) (e :: es) env = envS (fun q => decide (q < p + (k + 1))) (p + 1) ds es (putE env d.dst e.v) := by
          simp only [envS]
          rw [if_pos (by simp)]
        rw [e1]
        exact this
    split at h
    · rename_i hw
      split at h
      · rename_i e he
        split at h
        · cases h
        · rename_i hst
          refine next e (.inl ⟨hw, ?_, fun hs => ?_⟩) h
          · rw [List.take_of_length_le (by omega)]; exact he
          · simp only [hs, Bool.true_and, Bool.not_eq_true, Bool.not_eq_false'] at hst
            simpa using hst
      · cases h
    · rename_i hw
      exact next noEff (.inr ⟨hw, rfl⟩) (by simpa only [noEff, effO, updsO, topK] using h)
    · cases h
end
end Go.Dm
set_option linter.unusedSimpArgs false
set_option linter.unusedVariables false
set_option linter.unusedSectionVars false
namespace Go.Dm

theorem putE_length (env : List V) (d : Option Nat) (v : V) : (putE env d v).length = env.length := by cases d <;> simp [putE]
theorem envS_length (S : Nat → Bool) : ∀ (p : Nat) (ds : List DO) (es : List Eff) (env : List V), (envS S p ds es env).length = env.length
  | p, [], es, env => by cases es <;> rfl
  | p, d :: ds, [], env => rfl
  | p, d :: ds, e :: es, env => by
    simp only [envS]
    rw [envS_length S (p + 1) ds es]
    split
    · exact putE_length _ _ _
    · rfl

theorem putE_getD_ne {env : List V} {d : Option Nat} {v : V} {t : Nat} (h : d ≠ some t) : (putE env d v).getD t .undef = env.getD t .undef := by
  cases d with
  | none => rfl
  | some k =>
    simp only [putE, List.getD_eq_getElem?_getD]
    rw [List.getElem?_set_ne (fun e => h (by rw [e]))]
theorem putE_getD_congr {env env' : List V} {d : Option Nat} {v : V} {t : Nat} (hl : env.length = env'.length) (h : env.getD t .undef = env'.getD t .undef) : (putE env d v).getD t .undef = (putE env' d v).getD t .undef := by
  cases d with
  | none => exact h
  | some k =>
    by_cases hk : k = t
    · subst hk
      by_cases hlt : k < env.length
      · simp only [putE]
        rw [set_getD env k v k hlt, set_getD env' k v k (by omega)]; simp
      · simp only [putE]
        rw [List.set_eq_of_length_le (by omega), List.set_eq_of_length_le (by omega)]; exact h
    · rw [putE_getD_ne (by simpa using hk), putE_getD_ne (by simpa using hk)]; exact h

/-- A slot, behind two sets of operations that differ in such alone as do not write it. -/
theorem envS_getD {S S' : Nat → Bool} {t : Nat} : ∀ (p : Nat) (ds : List DO) (es : List Eff) (env env' : List V), env.length = env'.length → env.getD t .undef = env'.getD t .undef →
    (∀ k d, ds[k]? = some d → S (p + k) = S' (p + k) ∨ d.dst ≠ some t) → (envS S p ds es env).getD t .undef = (envS S' p ds es env').getD t .undef
  | p, [], es, env, env', _, h, _ => by cases es <;> exact h
  | p, d :: ds, [], env, env', _, h, _ => h
  | p, d :: ds, e :: es, env, env', hl, h, hs => by
    simp only [envS]
    refine envS_getD (p + 1) ds es _ _ ?_ ?_ (fun k d' hk => by have := hs (k + 1) d' (by simpa using hk); rwa [show p + 1 + k = p + (k + 1) by omega])
    · split <;> split <;> simp [putE_length, hl]
    · rcases hs 0 d rfl with h0 | h0
      · rw [Nat.add_zero] at h0
        rw [h0]
        split
        · exact putE_getD_congr hl h
        · exact h
      · have a : ∀ (b : Bool) (env : List V), (if b = true then putE env d.dst e.v else env).getD t .undef = env.getD t .undef := fun b env => by
          cases b
          · rfl
          · exact putE_getD_ne h0
        rw [a, a]; exact h

theorem putE_comm {env : List V} {a b : Option Nat} {x y : V} (h : a = none ∨ b = none ∨ a ≠ b) : putE (putE env a x) b y = putE (putE env b y) a x := by
  cases a with
  | none => rfl
  | some i =>
    cases b with
    | none => rfl
    | some j =>
      simp only [putE]
      refine List.set_comm _ _ fun e => ?_
      subst e
      simp at h
/-- One more, that runs last. -/
theorem envS_last {S : Nat → Bool} {dst : Option Nat} {v : V} : ∀ (p : Nat) (ds : List DO) (es : List Eff) (env : List V), (∀ k d, ds[k]? = some d → S (p + k) = true → d.dst = none ∨ dst = none ∨ d.dst ≠ dst) →
    putE (envS S p ds es env) dst v = envS S p ds es (putE env dst v)
  | p, [], es, env, _ => by cases es <;> rfl
  | p, d :: ds, [], env, _ => rfl
  | p, d :: ds, e :: es, env, h => by
    simp only [envS]
    rw [envS_last (p + 1) ds es _ fun k d' hk hs => h (k + 1) d' (by simpa using hk) (by rwa [show p + (k + 1) = p + 1 + k by omega])]
    split
    · rename_i hS
      rw [putE_comm (h 0 d rfl (by simpa using hS))]
    · rfl
def addS (S : Nat → Bool) (p : Nat) : Nat → Bool := fun q => S q || decide (q = p)
theorem envS_cong {S S' : Nat → Bool} : ∀ (p : Nat) (ds : List DO) (es : List Eff) (env : List V), (∀ q, p ≤ q → S q = S' q) → envS S p ds es env = envS S' p ds es env
  | p, [], es, env, _ => by cases es <;> rfl
  | p, d :: ds, [], env, _ => rfl
  | p, d :: ds, e :: es, env, h => by
    simp only [envS]
    rw [h p (Nat.le_refl _), envS_cong (p + 1) ds es _ fun q hq => h q (by omega)]
theorem envS_add {S : Nat → Bool} : ∀ (k j : Nat) (ds : List DO) (es : List Eff) (env : List V) (d : DO) (e : Eff), ds[k]? = some d → es[k]? = some e → S (j + k) = false →
    (∀ i d', ds[i]? = some d' → k < i → S (j + i) = true → d'.dst = none ∨ d.dst = none ∨ d'.dst ≠ d.dst) → putE (envS S j ds es env) d.dst e.v = envS (addS S (j + k)) j ds es env
  | k, j, [], es, env, d, e, hd, _, _, _ => by simp at hd
  | k, j, _ :: _, [], env, d, e, _, he, _, _ => by simp at he
  | 0, j, d0 :: ds, e0 :: es, env, d, e, hd, he, hS, h => by
    simp only [List.getElem?_cons_zero, Option.some.injEq] at hd he
    subst hd; subst he
    rw [Nat.add_zero] at hS ⊢
    simp only [envS, hS, Bool.false_eq_true, if_false]
    rw [if_pos (by simp [addS]), envS_last (j + 1) ds es env fun i d' hi hs => h (i + 1) d' (by simpa using hi) (by omega) (by rwa [show j + (i + 1) = j + 1 + i by omega])]
    exact envS_cong _ _ _ _ fun q hq => by simp [addS]; omega
  | k + 1, j, d0 :: ds, e0 :: es, env, d, e, hd, he, hS, h => by
    simp only [envS]
    have h0 : addS S (j + (k + 1)) j = S j := by simp [addS]
    rw [h0, envS_add k (j + 1) ds es _ d e (by simpa using hd) (by simpa using he) (by rwa [show j + 1 + k = j + (k + 1) by omega])
      (fun i d' hi hk hs => h (i + 1) d' (by simpa using hi) (by omega) (by rwa [show j + (i + 1) = j + 1 + i by omega]))]
    rw [show j + 1 + k = j + (k + 1) by omega]
end Go.Dm
set_option linter.unusedSimpArgs false
set_option linter.unusedVariables false
set_option linter.unusedSectionVars false
namespace Go.Dm

/-- The names that an effect changes. -/
def touches (e : Eff) (nm h : Nat) : Prop := h ∈ effKeys e ∨ (e.new ≠ none ∧ h = nm)

theorem applyU_off : ∀ (us : List (Nat × Option Obj)) (g : Nat → Option Obj) (h : Nat), h ∉ us.map (·.1) → applyU us g h = g h
  | [], g, h, _ => rfl
  | (k, o) :: r, g, h, hh => by
    simp only [List.map_cons, List.mem_cons, not_or] at hh
    rw [applyU, applyU_off r _ h hh.2, upd_ne _ _ hh.1]
theorem applyU_at : ∀ (us : List (Nat × Option Obj)) (g g' : Nat → Option Obj) (h : Nat), g h = g' h → applyU us g h = applyU us g' h
  | [], g, g', h, e => e
  | (k, o) :: r, g, g', h, e => by
    refine applyU_at r _ _ h ?_
    by_cases hk : h = k
    · subst hk; rw [upd_same, upd_same]
    · rw [upd_ne _ _ hk, upd_ne _ _ hk]; exact e
theorem applyE_off {g : Nat → Option Obj} {nm h : Nat} {e : Eff} (hh : ¬ touches e nm h) : applyE g nm e h = g h := by
  simp only [touches, not_or] at hh
  unfold applyE
  cases hn : e.new with
  | none => exact applyU_off _ _ _ hh.1
  | some o =>
    have : h ≠ nm := fun q => hh.2 ⟨by simp [hn], q⟩
    simp only
    rw [upd_ne _ _ this]
    exact applyU_off _ _ _ hh.1
theorem applyE_at {g g' : Nat → Option Obj} {nm h : Nat} {e : Eff} (hg : g h = g' h) : applyE g nm e h = applyE g' nm e h := by
  unfold applyE
  cases hn : e.new with
  | none => exact applyU_at _ _ _ _ hg
  | some o =>
    simp only
    by_cases hk : h = nm
    · subst hk; rw [upd_same, upd_same]
    · rw [upd_ne _ _ hk, upd_ne _ _ hk]; exact applyU_at _ _ _ _ hg

theorem getO_effO_off {os : Objs} {nm h : Nat} {e : Eff} (hh : ¬ touches e nm h) : getO (effO os nm e) h = getO os h := by
  rw [getO_eff]; exact applyE_off hh
theorem getO_effO_at {os os' : Objs} {nm h : Nat} {e : Eff} (hg : getO os h = getO os' h) : getO (effO os nm e) h = getO (effO os' nm e) h := by
  rw [getO_eff, getO_eff]; exact applyE_at hg

theorem objS_irr {S S' : Nat → Bool} {base h : Nat} : ∀ (p : Nat) (es : List Eff) (os os' : Objs), getO os h = getO os' h →
    (∀ k e, es[k]? = some e → S (p + k) = S' (p + k) ∨ ¬ touches e (base + (p + k)) h) → getO (objS S base p es os) h = getO (objS S' base p es os') h
  | p, [], os, os', hg, _ => hg
  | p, e :: es, os, os', hg, hs => by
    simp only [objS]
    refine objS_irr (p + 1) es _ _ ?_ (fun k e' hk => by have := hs (k + 1) e' (by simpa using hk); rwa [show p + 1 + k = p + (k + 1) by omega])
    rcases hs 0 e rfl with h0 | h0
    · rw [Nat.add_zero] at h0
      rw [h0]
      split
      · exact getO_effO_at hg
      · exact hg
    · rw [Nat.add_zero] at h0
      have a : ∀ (b : Bool) (os : Objs), getO (if b = true then effO os (base + p) e else os) h = getO os h := fun b os => by
        cases b
        · rfl
        · exact getO_effO_off h0
      rw [a, a]; exact hg

theorem objS_last {S : Nat → Bool} {base nm : Nat} {e : Eff} : ∀ (p : Nat) (es : List Eff) (os os' : Objs), getO os' = applyE (getO os) nm e →
    (∀ k e', es[k]? = some e' → S (p + k) = true → ∀ h, ¬ (touches e nm h ∧ touches e' (base + (p + k)) h)) → getO (objS S base p es os') = applyE (getO (objS S base p es os)) nm e
  | p, [], os, os', hg, _ => hg
  | p, e0 :: es, os, os', hg, hs => by
    simp only [objS]
    refine objS_last (p + 1) es _ _ ?_ (fun k e' hk hS => by
      have := hs (k + 1) e' (by simpa using hk) (by rwa [show p + (k + 1) = p + 1 + k by omega])
      rwa [show p + 1 + k = p + (k + 1) by omega])
    split
    · rename_i hS
      have h0 := hs 0 e0 rfl (by simpa using hS)
      rw [Nat.add_zero] at h0
      funext h
      rw [getO_eff, getO_eff, hg]
      by_cases h1 : touches e nm h
      · have h2 : ¬ touches e0 (base + p) h := fun q => h0 h ⟨h1, q⟩
        rw [applyE_off h2]
        exact applyE_at (applyE_off h2).symm
      · rw [applyE_off (g := applyE (getO os) (base + p) e0) h1]
        exact applyE_at (applyE_off h1)
    · exact hg
theorem objS_cong {S S' : Nat → Bool} {base : Nat} : ∀ (p : Nat) (es : List Eff) (os : Objs), (∀ q, p ≤ q → S q = S' q) → objS S base p es os = objS S' base p es os
  | p, [], os, _ => rfl
  | p, e :: es, os, h => by
    simp only [objS]
    rw [h p (Nat.le_refl _), objS_cong (p + 1) es _ fun q hq => h q (by omega)]
theorem objS_add {S : Nat → Bool} {base : Nat} : ∀ (k j : Nat) (es : List Eff) (os : Objs) (e : Eff), es[k]? = some e → S (j + k) = false →
    (∀ i e', es[i]? = some e' → k < i → S (j + i) = true → ∀ h, ¬ (touches e (base + (j + k)) h ∧ touches e' (base + (j + i)) h)) →
    getO (objS (addS S (j + k)) base j es os) = applyE (getO (objS S base j es os)) (base + (j + k)) e
  | k, j, [], os, e, he, _, _ => by simp at he
  | 0, j, e0 :: es, os, e, he, hS, h => by
    simp only [List.getElem?_cons_zero, Option.some.injEq] at he
    subst he
    rw [Nat.add_zero] at hS ⊢
    simp only [objS, hS, Bool.false_eq_true, if_false]
    rw [if_pos (by simp [addS])]
    rw [objS_cong (S := addS S j) (S' := S) (j + 1) es _ fun q hq => by simp [addS]; omega]
    refine objS_last (j + 1) es os _ (getO_eff os (base + j) e0) fun i e' hi hs => ?_
    have := h (i + 1) e' (by simpa using hi) (by omega) (by rwa [show j + (i + 1) = j + 1 + i by omega])
    rwa [show j + (i + 1) = j + 1 + i by omega] at this
  | k + 1, j, e0 :: es, os, e, he, hS, h => by
    simp only [objS]
    have h0 : addS S (j + (k + 1)) j = S j := by simp [addS]
    rw [h0]
    have := objS_add (S := S) (base := base) k (j + 1) es (if S j = true then effO os (base + j) e0 else os) e (by simpa using he) (by rwa [show j + 1 + k = j + (k + 1) by omega])
      (fun i e' hi hk hs => by
        have := h (i + 1) e' (by simpa using hi) (by omega) (by rwa [show j + (i + 1) = j + 1 + i by omega])
        rw [show j + 1 + k = j + (k + 1) by omega, show j + 1 + i = j + (i + 1) by omega]
        exact this)
    rw [show j + 1 + k = j + (k + 1) by omega] at this
    exact this

/-- What a list of positions in order has done. -/
theorem visO_objS {base : Nat} {V : Nat → Bool} : ∀ (m j : Nat) (es : List Eff) (full : List Eff) (os : Objs), (∀ k, k < m → full[j + k]? = es[k]?) → es.length = m →
    visO base full ((List.range' j m).filter V) os = objS V base j es os
  | 0, j, es, full, os, _, hl => by
    cases es with
    | nil => rfl
    | cons => simp at hl
  | m + 1, j, es, full, os, h, hl => by
    cases es with
    | nil => simp at hl
    | cons e es =>
      rw [List.range'_succ]
      simp only [List.filter_cons, objS]
      have ih := fun os => visO_objS (base := base) (V := V) m (j + 1) es full os (fun k hk => by have := h (k + 1) (by omega); rw [show j + 1 + k = j + (k + 1) by omega]; simpa using this) (by simpa using hl)
      have h0 : full[j]? = some e := by have := h 0 (by omega); simpa using this
      split
      · rename_i hV
        simp only [visO, h0, ih]
      · rename_i hV
        exact ih os

theorem confO_off {es : List Eff} : ∀ (conf : List Nat) (os : Objs) (h : Nat) (o : Obj), getO (confO es conf os) h = some o → getO os h = some o ∧ ∀ i ∈ conf, ∀ e, es[i]? = some e → h ∉ effKeys e
  | [], os, h, o, hg => ⟨hg, by simp⟩
  | i :: r, os, h, o, hg => by
    have del : ∀ (ks : List Nat) (os : Objs), getO (ks.foldl delO os) h = some o → getO os h = some o ∧ h ∉ ks := by
      intro ks
      induction ks with
      | nil => intro os hg; exact ⟨hg, by simp⟩
      | cons k ks ih =>
        intro os hg
        obtain ⟨h1, h2⟩ := ih _ hg
        rw [getO_del] at h1
        by_cases hk : h = k
        · subst hk; rw [upd_same] at h1; cases h1
        · rw [upd_ne _ _ hk] at h1
          exact ⟨h1, by simp [hk, h2]⟩
    simp only [confO] at hg
    split at hg
    · rename_i e he
      obtain ⟨h1, h2⟩ := confO_off r _ h o hg
      obtain ⟨h3, h4⟩ := del _ _ h1
      refine ⟨h3, fun k hk e' he' => ?_⟩
      simp only [List.mem_cons] at hk
      rcases hk with rfl | hk
      · rw [he] at he'; cases he'; exact h4
      · exact h2 k hk e' he'
    · rename_i he
      obtain ⟨h1, h2⟩ := confO_off r _ h o hg
      refine ⟨h1, fun k hk e' he' => ?_⟩
      simp only [List.mem_cons] at hk
      rcases hk with rfl | hk
      · rw [he] at he'; cases he'
      · exact h2 k hk e' he'
end Go.Dm
set_option linter.unusedSimpArgs false
set_option linter.unusedVariables false
set_option linter.unusedSectionVars false
namespace Go.Dm

def slotX : X → List Nat
  | .t n => [n]
  | .c _ => []
/-- The slots that an operation reads. -/
def slotsD (d : DO) : List Nat := (cXsOf d.op).flatMap slotX ++ (match d.guard with | some (t, _) => [t] | none => [])

/-- Two operations of which either may come first: q stands ahead of p. -/
def Unord (dq dp : DO) (q : Nat) : Prop :=
  (∀ t, dq.dst = some t → t ∉ slotsD dp) ∧ (∀ t, dp.dst = some t → t ∉ slotsD dq) ∧ (dq.dst = none ∨ dp.dst = none ∨ dq.dst ≠ dp.dst) ∧
  (blind dp.op = true ∨ calm dq.op = true ∨ q ∈ dp.conf) ∧ (blind dq.op = true ∨ calm dp.op = true ∨ dp.still = true)

structure DrwOk (ops : Array Oper) (ds : List DO) (bs : Nat → List Nat) (pos : Nat → Nat) : Prop where
  len : ds.length = ops.size
  pos_src : ∀ p d, ds[p]? = some d → d.src < ops.size ∧ pos d.src = p
  src_pos : ∀ i, i < ops.size → ∃ d, ds[pos i]? = some d ∧ d.src = i
  edge : ∀ p d o e, ds[p]? = some d → ops[d.src]? = some o → e ∈ o.after → Region.binds .any e = true → e.on < ops.size ∧ pos e.on < p
  bs_cl : ∀ p d o q, ds[p]? = some d → ops[d.src]? = some o → q ∈ bs p → ∃ e ∈ o.after, Region.binds .any e = true ∧ (q = pos e.on ∨ q ∈ bs (pos e.on))
  bs_tr : ∀ p q v, p < ds.length → q ∈ bs p → v ∈ bs q → v ∈ bs p
  bs_lt : ∀ p q, p < ds.length → q ∈ bs p → q < p
  pair : ∀ q p dq dp, q < p → ds[q]? = some dq → ds[p]? = some dp → q ∈ bs p ∨ Unord dq dp q
  vis_eq : ∀ p d, ds[p]? = some d → d.vis = (List.range' 0 p).filter (fun q => d.vis.contains q)
  vis_bs : ∀ (p : Nat) (d : DO) (q : Nat), ds[p]? = some d → q ∈ d.vis → q ∈ bs p
  vis_in : ∀ p q dp dq, ds[p]? = some dp → ds[q]? = some dq → q ∈ bs p → quiet dq.op = true ∨ blind dp.op = true ∨ q ∈ dp.vis
  conf_lt : ∀ (p : Nat) (d : DO) (q : Nat), ds[p]? = some d → q ∈ d.conf → q < p

section
variable {cs : CallSem} {lend : Nat → List Bool} {gl : Nat → Option (List V)} {ops : Array Oper} {ds : List DO} {bs : Nat → List Nat} {pos : Nat → Nat} {base n : Nat} {os0 : Objs} {es : List Eff} {envs : Nat → List V}

/-- What a region's run has told, of all its operations. -/
structure AllTold (cs : CallSem) (lend : Nat → List Bool) (gl : Nat → Option (List V)) (ds : List DO) (base n : Nat) (os0 : Objs) (es : List Eff) (envs : Nat → List V) : Prop where
  len : es.length = ds.length
  n_eq : n = ds.length
  low : ∀ h o, getO os0 h = some o → h < base
  told : ∀ p d e, ds[p]? = some d → es[p]? = some e → Told cs lend gl base n os0 es (envs p) p d e

theorem cls_inj {p q h : Nat} (hp : p < n) (hq : q < n) (h1 : cls (base + p) n h) (h2 : cls (base + q) n h) : p = q := by
  obtain ⟨i, rfl⟩ := cls_get (by omega) h1
  obtain ⟨j, hj⟩ := cls_get (by omega) h2
  have e : p + n * i = q + n * j := by omega
  have := congrArg (· % n) e
  simp only [Nat.add_mul_mod_self_left, Nat.mod_eq_of_lt hp, Nat.mod_eq_of_lt hq] at this
  exact this
theorem cls_low {p h : Nat} (h1 : cls (base + p) n h) : base ≤ h := by have := h1.1; omega

/-- The objects that an operation sees. -/
def seen (base : Nat) (os0 : Objs) (es : List Eff) (p : Nat) (d : DO) : Objs := confO (es.take p) d.conf (visO base (es.take p) d.vis os0)

theorem told_keys (hT : AllTold cs lend gl ds base n os0 es envs) {p : Nat} {d : DO} {e : Eff} (hd : ds[p]? = some d) (he : es[p]? = some e) :
    ∀ h ∈ effKeys e, (getO (seen base os0 es p d) h).isSome = true ∨ cls (base + p) n h := by
  intro h hh
  rcases hT.told p d e hd he with ⟨_, h2, _⟩ | ⟨_, rfl⟩
  · obtain ⟨q, hq, rfl⟩ := List.mem_map.1 hh
    exact stepC_keys h2 q hq
  · simp [effKeys, noEff] at hh

theorem told_quiet (hT : AllTold cs lend gl ds base n os0 es envs) {p : Nat} {d : DO} {e : Eff} (hd : ds[p]? = some d) (he : es[p]? = some e) (hq : quiet d.op = true) : e.upds = [] ∧ e.new = none := by
  rcases hT.told p d e hd he with ⟨_, h2, _⟩ | ⟨_, rfl⟩
  · exact quiet_spec hq h2
  · exact ⟨rfl, rfl⟩
theorem told_calm (hT : AllTold cs lend gl ds base n os0 es envs) {p : Nat} {d : DO} {e : Eff} (hd : ds[p]? = some d) (he : es[p]? = some e) (hq : calm d.op = true) : e.upds = [] := by
  rcases hT.told p d e hd he with ⟨_, h2, _⟩ | ⟨_, rfl⟩
  · exact calm_spec hq h2
  · rfl
theorem told_still (hT : AllTold cs lend gl ds base n os0 es envs) {p : Nat} {d : DO} {e : Eff} (hd : ds[p]? = some d) (he : es[p]? = some e) (hq : d.still = true) : e.upds = [] := by
  rcases hT.told p d e hd he with ⟨_, _, h3⟩ | ⟨_, rfl⟩
  · exact h3 hq
  · rfl
theorem blind_quiet {c : COp} (h : blind c = true) : quiet c = true := by
  cases c with
  | op d => cases d <;> first | exact h | (simp [blind] at h; done) | rfl
  | _ => simp [blind] at h

/-- The visible objects, as those behind a set of positions. -/
theorem vis_objS (hK : DrwOk ops ds bs pos) (hT : AllTold cs lend gl ds base n os0 es envs) {p : Nat} {d : DO} (hd : ds[p]? = some d) :
    visO base (es.take p) d.vis os0 = objS (fun q => d.vis.contains q) base 0 es os0 := by
  have hp : p < ds.length := (List.getElem?_eq_some_iff.1 hd).1
  have h1 : visO base (es.take p) d.vis os0 = objS (fun q => d.vis.contains q) base 0 (es.take p) os0 := by
    conv => lhs; rw [hK.vis_eq p d hd]
    exact visO_objS p 0 (es.take p) (es.take p) os0 (fun k _ => by rw [Nat.zero_add]) (by rw [List.length_take, hT.len]; omega)
  rw [h1]
  have key : ∀ (j : Nat) (es : List Eff) (m : Nat) (os : Objs), (∀ q, j + m ≤ q → d.vis.contains q = false) → objS (fun q => d.vis.contains q) base j (es.take m) os = objS (fun q => d.vis.contains q) base j es os := by
    intro j es
    induction es generalizing j with
    | nil => intro m os _; simp
    | cons e es ih =>
      intro m os hv
      cases m with
      | zero =>
        simp only [List.take_zero, objS]
        rw [if_neg (by rw [hv j (by omega)]; simp)]
        have := ih (j + 1) 0 os (fun q hq => hv q (by omega))
        simpa [objS] using this
      | succ m =>
        simp only [List.take_succ_cons, objS]
        exact ih (j + 1) m _ (fun q hq => hv q (by omega))
  refine key 0 es p os0 fun q hq => ?_
  cases hc : d.vis.contains q with
  | false => rfl
  | true =>
    have := hK.bs_lt p q hp (hK.vis_bs p d q hd (by simpa using hc))
    omega
end
end Go.Dm
set_option linter.unusedSimpArgs false
set_option linter.unusedVariables false
set_option linter.unusedSectionVars false
namespace Go.Dm

section
variable {cs : CallSem} {lend : Nat → List Bool} {gl : Nat → Option (List V)} {ops : Array Oper} {ds : List DO} {bs : Nat → List Nat} {pos : Nat → Nat} {base n : Nat} {os0 : Objs} {es : List Eff} {envs : Nat → List V}

theorem objS_dom {S : Nat → Bool} {base h : Nat} {o : Obj} : ∀ (p : Nat) (es : List Eff) (os : Objs), getO (objS S base p es os) h = some o →
    (∃ o', getO os h = some o') ∨ ∃ k e, es[k]? = some e ∧ S (p + k) = true ∧ touches e (base + (p + k)) h
  | p, [], os, hg => .inl ⟨o, hg⟩
  | p, e :: es, os, hg => by
    simp only [objS] at hg
    rcases objS_dom (p + 1) es _ hg with ⟨o', h1⟩ | ⟨k, e', h1, h2, h3⟩
    · split at h1
      · rename_i hS
        by_cases ht : touches e (base + p) h
        · exact .inr ⟨0, e, rfl, by simpa using hS, by simpa using ht⟩
        · rw [getO_effO_off ht] at h1; exact .inl ⟨o', h1⟩
      · exact .inl ⟨o', h1⟩
    · exact .inr ⟨k + 1, e', by simpa using h1, by rwa [show p + (k + 1) = p + 1 + k by omega], by rwa [show p + (k + 1) = p + 1 + k by omega]⟩

theorem es_get (hT : AllTold cs lend gl ds base n os0 es envs) {p : Nat} {d : DO} (hd : ds[p]? = some d) : ∃ e, es[p]? = some e := by
  have := (List.getElem?_eq_some_iff.1 hd).1
  exact ⟨_, List.getElem?_eq_getElem (by rw [hT.len]; exact this)⟩
theorem ds_get (hT : AllTold cs lend gl ds base n os0 es envs) {p : Nat} {e : Eff} (he : es[p]? = some e) : ∃ d, ds[p]? = some d := by
  have := (List.getElem?_eq_some_iff.1 he).1
  exact ⟨_, List.getElem?_eq_getElem (by rw [← hT.len]; exact this)⟩

theorem seen_dom (hK : DrwOk ops ds bs pos) (hT : AllTold cs lend gl ds base n os0 es envs) : ∀ (p : Nat) (d : DO), ds[p]? = some d → ∀ h o, getO (seen base os0 es p d) h = some o → h < base ∨ ∃ v ∈ bs p, cls (base + v) n h := by
  intro p
  induction p using Nat.strongRecOn with
  | _ p ih =>
    intro d hd h o hg
    have hp : p < ds.length := (List.getElem?_eq_some_iff.1 hd).1
    obtain ⟨h1, _⟩ := confO_off _ _ _ _ hg
    rw [vis_objS hK hT hd] at h1
    rcases objS_dom 0 es os0 h1 with ⟨o', h2⟩ | ⟨v, e, he, hv, ht⟩
    · exact .inl (hT.low h o' h2)
    · rw [Nat.zero_add] at hv ht
      have hvb : v ∈ bs p := hK.vis_bs p d v hd (by simpa using hv)
      have hvp : v < p := hK.bs_lt p v hp hvb
      rcases ht with ht | ⟨_, rfl⟩
      · obtain ⟨dv, hdv⟩ := ds_get hT he
        rcases told_keys hT hdv he h ht with hk | hk
        · obtain ⟨o2, ho2⟩ := Option.isSome_iff_exists.1 hk
          rcases ih v hvp dv hdv h o2 ho2 with hb | ⟨u, hu, hc⟩
          · exact .inl hb
          · exact .inr ⟨u, hK.bs_tr p v u hp hvb hu, hc⟩
        · exact .inr ⟨v, hvb, hk⟩
      · exact .inr ⟨v, hvb, cls_mk _ _ 0⟩

/-- What an operation touches: below the region's names, or names of its own and of those ahead of it. -/
theorem touch_dom (hK : DrwOk ops ds bs pos) (hT : AllTold cs lend gl ds base n os0 es envs) {p : Nat} {d : DO} {e : Eff} (hd : ds[p]? = some d) (he : es[p]? = some e) {h : Nat} (ht : h ∈ effKeys e) :
    (∃ o, getO (seen base os0 es p d) h = some o ∧ (h < base ∨ ∃ v ∈ bs p, cls (base + v) n h)) ∨ cls (base + p) n h := by
  rcases told_keys hT hd he h ht with hk | hk
  · obtain ⟨o, ho⟩ := Option.isSome_iff_exists.1 hk
    exact .inl ⟨o, ho, seen_dom hK hT p d hd h o ho⟩
  · exact .inr hk

/-- Unordered operations touch different objects. -/
theorem apart (hK : DrwOk ops ds bs pos) (hT : AllTold cs lend gl ds base n os0 es envs) {q p : Nat} {dq dp : DO} {eq ep : Eff} (hqp : q < p) (hdq : ds[q]? = some dq) (hdp : ds[p]? = some dp) (heq : es[q]? = some eq) (hep : es[p]? = some ep)
    (hnb : q ∉ bs p) (hU : Unord dq dp q) (h : Nat) : ¬ (touches eq (base + q) h ∧ touches ep (base + p) h) := by
  have hpn : p < ds.length := (List.getElem?_eq_some_iff.1 hdp).1
  have hn := hT.n_eq
  have bsn : ∀ x v, x < ds.length → v ∈ bs x → v < n := fun x v hx hv => by have := hK.bs_lt x v hx hv; omega
  have key_q : h ∈ effKeys eq → h = base + p → False := fun hk hh => by
    subst hh
    rcases touch_dom hK hT hdq heq hk with ⟨o, _, hb | ⟨v, hv, hc⟩⟩ | hc
    · omega
    · have := cls_inj (p := v) (q := p) (bsn q v (by omega) hv) (by omega) hc (cls_mk _ _ 0)
      have := hK.bs_lt q v (by omega) hv; omega
    · have := cls_inj (p := q) (q := p) (by omega) (by omega) hc (cls_mk _ _ 0); omega
  have key_p : h ∈ effKeys ep → h = base + q → False := fun hk hh => by
    subst hh
    rcases touch_dom hK hT hdp hep hk with ⟨o, _, hb | ⟨v, hv, hc⟩⟩ | hc
    · omega
    · have := cls_inj (p := v) (q := q) (bsn p v hpn hv) (by omega) hc (cls_mk _ _ 0)
      subst this; exact hnb hv
    · have := cls_inj (p := p) (q := q) (by omega) (by omega) hc (cls_mk _ _ 0); omega
  rintro ⟨tq, tp⟩
  rcases tq with tq | ⟨_, tq⟩ <;> rcases tp with tp | ⟨_, tp⟩
  · obtain ⟨_, _, _, hb, hc⟩ := hU
    rcases hb with hb | hb | hb
    · have := (told_quiet hT hdp hep (blind_quiet hb)).1; simp [effKeys, this] at tp
    · have := told_calm hT hdq heq hb; simp [effKeys, this] at tq
    · rcases touch_dom hK hT hdp hep tp with ⟨o, ho, _⟩ | hcl
      · obtain ⟨_, h2⟩ := confO_off _ _ _ _ ho
        exact h2 q hb eq (by rw [List.getElem?_take]; simp [hqp, heq]) tq
      · rcases touch_dom hK hT hdq heq tq with ⟨o, _, hb' | ⟨v, hv, hc'⟩⟩ | hc'
        · have := cls_low hcl; omega
        · have := cls_inj (p := v) (q := p) (bsn q v (by omega) hv) (by omega) hc' hcl
          have := hK.bs_lt q v (by omega) hv; omega
        · have := cls_inj (p := q) (q := p) (by omega) (by omega) hc' hcl; omega
  · exact key_q tq tp
  · exact key_p tp tq
  · omega
end
end Go.Dm
set_option linter.unusedSimpArgs false
set_option linter.unusedVariables false
set_option linter.unusedSectionVars false
namespace Go.Dm

section
variable {cs : CallSem} {lend : Nat → List Bool} {gl : Nat → Option (List V)} {ops : Array Oper} {ds : List DO} {bs : Nat → List Nat} {pos : Nat → Nat} {base n : Nat} {os0 : Objs} {es : List Eff} {env0 : List V}

/-- A set of positions, each with those ahead of it. -/
structure Shut (ds : List DO) (bs : Nat → List Nat) (S : Nat → Bool) : Prop where
  shut : ∀ p q, p < ds.length → S p = true → q ∈ bs p → S q = true

theorem seen_le {envs : Nat → List V} (hK : DrwOk ops ds bs pos) (hT : AllTold cs lend gl ds base n os0 es envs) {S : Nat → Bool} (hS : Shut ds bs S) {p : Nat} {d : DO} (hd : ds[p]? = some d) (hp : S p = false) (hb : ∀ q ∈ bs p, S q = true)
    (hnb : ¬ blind d.op = true) : LeO (getO (seen base os0 es p d)) (getO (objS S base 0 es os0)) := by
  intro h o hg
  have hpn : p < ds.length := (List.getElem?_eq_some_iff.1 hd).1
  have hn := hT.n_eq
  obtain ⟨h1, h2⟩ := confO_off _ _ _ _ hg
  have hdom := seen_dom hK hT p d hd h o hg
  rw [vis_objS hK hT hd] at h1
  rw [← h1]
  refine (objS_irr 0 es os0 os0 rfl fun k e he => ?_).symm
  rw [Nat.zero_add]
  obtain ⟨dk, hdk⟩ := ds_get hT he
  have hkn : k < ds.length := (List.getElem?_eq_some_iff.1 hdk).1
  by_cases hv : k ∈ d.vis
  · left
    rw [hb k (hK.vis_bs p d k hd hv)]
    simpa using hv
  · by_cases hSk : S k = true
    · right
      have hnew : k ∉ bs p → h ≠ base + k := fun hkb hh => by
        subst hh
        rcases hdom with hb' | ⟨v, hv', hc⟩
        · omega
        · have := cls_inj (p := v) (q := k) (by have := hK.bs_lt p v hpn hv'; omega) (by omega) hc (cls_mk _ _ 0)
          subst this; exact hkb hv'
      have hoff : e.upds = [] → k ∉ bs p → ¬ touches e (base + k) h := fun hu hkb ht => by
        rcases ht with ht | ⟨_, ht⟩
        · simp [effKeys, hu] at ht
        · exact hnew hkb ht
      have hkp : k ≠ p := fun q => by subst q; rw [hp] at hSk; cases hSk
      rcases Nat.lt_or_ge k p with hlt | hge
      · rcases hK.pair k p dk d hlt hdk hd with hin | hU
        · rcases hK.vis_in p k d dk hd hdk hin with hq | hq | hq
          · obtain ⟨q1, q2⟩ := told_quiet hT hdk he hq
            rintro (ht | ⟨ht, _⟩)
            · simp [effKeys, q1] at ht
            · exact ht q2
          · exact absurd hq hnb
          · exact absurd hq hv
        · by_cases hkb : k ∈ bs p
          · rcases hK.vis_in p k d dk hd hdk hkb with hq | hq | hq
            · obtain ⟨q1, q2⟩ := told_quiet hT hdk he hq
              rintro (ht | ⟨ht, _⟩)
              · simp [effKeys, q1] at ht
              · exact ht q2
            · exact absurd hq hnb
            · exact absurd hq hv
          · rcases hU.2.2.2.1 with hq | hq | hq
            · exact absurd hq hnb
            · exact hoff (told_calm hT hdk he hq) hkb
            · rintro (ht | ⟨_, ht⟩)
              · exact h2 k hq e (by rw [List.getElem?_take]; simp [hlt, he]) ht
              · exact hnew hkb ht
      · have hlt : p < k := by omega
        have hkb : k ∉ bs p := fun hh => by have := hK.bs_lt p k hpn hh; omega
        rcases hK.pair p k d dk hlt hd hdk with hin | hU
        · have := hS.shut k p hkn hSk hin
          rw [hp] at this; cases this
        · rcases hU.2.2.2.2 with hq | hq | hq
          · exact absurd hq hnb
          · exact hoff (told_calm hT hdk he hq) hkb
          · exact hoff (told_still hT hdk he hq) hkb
    · left
      have : S k = false := by simpa using hSk
      rw [this]
      simpa using hv

/-- A ready operation tells the same at whatever time it comes. -/
theorem told_at (hK : DrwOk ops ds bs pos) (hT : AllTold cs lend gl ds base n os0 es (fun p => envS (fun q => decide (q < p)) 0 ds es env0)) {S : Nat → Bool} (hS : Shut ds bs S) {p : Nat} {d : DO} {e : Eff} (hd : ds[p]? = some d) (he : es[p]? = some e)
    (hp : S p = false) (hb : ∀ q ∈ bs p, S q = true) :
    (wantD (envS S 0 ds es env0) d.guard = some true ∧ stepC cs lend gl (evL (envS S 0 ds es env0)) (objS S base 0 es os0) (base + p) n d.op = some e) ∨ (wantD (envS S 0 ds es env0) d.guard = some false ∧ e = noEff) := by
  have hpn : p < ds.length := (List.getElem?_eq_some_iff.1 hd).1
  have hslot : ∀ t ∈ slotsD d, (envS (fun q => decide (q < p)) 0 ds es env0).getD t .undef = (envS S 0 ds es env0).getD t .undef := by
    intro t ht
    refine envS_getD 0 ds es env0 env0 rfl rfl fun k dk hdk => ?_
    rw [Nat.zero_add]
    have hkn : k < ds.length := (List.getElem?_eq_some_iff.1 hdk).1
    by_cases hkp : k < p
    · by_cases hSk : S k = true
      · left; simp [hkp, hSk]
      · right
        intro hdst
        rcases hK.pair k p dk d hkp hdk hd with hin | hU
        · exact hSk (hb k hin)
        · exact hU.1 t hdst ht
    · by_cases hSk : S k = true
      · right
        intro hdst
        have hne : k ≠ p := fun q => by subst q; rw [hp] at hSk; cases hSk
        rcases hK.pair p k d dk (by omega) hd hdk with hin | hU
        · have := hS.shut k p hkn hSk hin
          rw [hp] at this; cases this
        · exact hU.2.1 t hdst ht
      · left
        have : S k = false := by simpa using hSk
        simp [hkp, this]
  have hguard : wantD (envS (fun q => decide (q < p)) 0 ds es env0) d.guard = wantD (envS S 0 ds es env0) d.guard := by
    cases hg : d.guard with
    | none => rfl
    | some g =>
      obtain ⟨t, b⟩ := g
      simp only [wantD]
      rw [hslot t (by simp [slotsD, hg])]
  rcases hT.told p d e hd he with ⟨h1, h2, _⟩ | ⟨h1, h2⟩
  · left
    refine ⟨by rw [← hguard]; exact h1, ?_⟩
    have hev : ∀ x ∈ cXsOf d.op, evL (envS (fun q => decide (q < p)) 0 ds es env0) x = evL (envS S 0 ds es env0) x := fun x hx => by
      cases x with
      | c v => rfl
      | t k => exact hslot k (List.mem_append_left _ (List.mem_flatMap.2 ⟨_, hx, by simp [slotX]⟩))
    rw [stepC_congr hev] at h2
    by_cases hbl : blind d.op = true
    · rw [← blind_spec (os := confO (es.take p) d.conf (visO base (es.take p) d.vis os0)) (nm := base + p) (stride := n) (fun v => rfl) hbl]
      exact h2
    · exact stepC_mono (seen_le hK hT hS hd hp hb hbl) h2
  · right
    exact ⟨by rw [← hguard]; exact h1, h2⟩
end
end Go.Dm
set_option linter.unusedSimpArgs false
set_option linter.unusedVariables false
set_option linter.unusedSectionVars false
namespace Go.Dm

theorem envS_cong' {S S' : Nat → Bool} : ∀ (p : Nat) (ds : List DO) (es : List Eff) (env : List V), (∀ k, k < ds.length → S (p + k) = S' (p + k)) → envS S p ds es env = envS S' p ds es env
  | p, [], es, env, _ => by cases es <;> rfl
  | p, d :: ds, [], env, _ => rfl
  | p, d :: ds, e :: es, env, h => by
    simp only [envS]
    have h0 := h 0 (by simp)
    rw [Nat.add_zero] at h0
    rw [h0]
    exact envS_cong' (p + 1) ds es _ fun k hk => by
      have := h (k + 1) (by simp only [List.length_cons]; omega)
      rwa [show p + (k + 1) = p + 1 + k by omega] at this
theorem objS_cong' {S S' : Nat → Bool} {base : Nat} : ∀ (p : Nat) (es : List Eff) (os : Objs), (∀ k, k < es.length → S (p + k) = S' (p + k)) → objS S base p es os = objS S' base p es os
  | p, [], os, _ => rfl
  | p, e :: es, os, h => by
    simp only [objS]
    have h0 := h 0 (by simp)
    rw [Nat.add_zero] at h0
    rw [h0]
    exact objS_cong' (p + 1) es _ fun k hk => by
      have := h (k + 1) (by simp only [List.length_cons]; omega)
      rwa [show p + (k + 1) = p + 1 + k by omega] at this
theorem nxS_le : ∀ (es : List Eff) (nx : Nat), nx ≤ nxS es nx ∧ ∀ e ∈ es, ∀ h ∈ effKeys e, h < nxS es nx
  | [], nx => ⟨Nat.le_refl _, by simp⟩
  | e :: es, nx => by
    obtain ⟨h1, h2⟩ := nxS_le es (topK nx e.upds)
    obtain ⟨t1, t2⟩ := topK_le e.upds nx
    refine ⟨Nat.le_trans t1 h1, fun e' he' h hh => ?_⟩
    simp only [List.mem_cons] at he'
    rcases he' with rfl | he'
    · obtain ⟨q, hq, rfl⟩ := List.mem_map.1 hh
      exact Nat.lt_of_lt_of_le (t2 q hq) h1
    · exact h2 e' he' h hh

/-- The positions that are listed. -/
def listS (ds : List DO) (L : Array Bool) : Nat → Bool := fun p => match ds[p]? with
  | some d => L.getD d.src false
  | none => false

section
variable {P : Program} {w0 : World} {O I0 : Nat → Prop} {ρ0 : Rho} {kept : Nat} {eqs : List TypeId} {cs : CallSem} {lend : Nat → List Bool} {gl : Nat → Option (List V)} {ops : Array Oper} {ds : List DO} {bs : Nat → List Nat} {pos : Nat → Nat} {base n nx0 : Nat} {os0 : Objs} {es : List Eff} {env0 : List V}

theorem listS_add (hK : DrwOk ops ds bs pos) {L : Array Bool} (hL : L.size = ops.size) {p : Nat} {d : DO} (hd : ds[p]? = some d) : listS ds (L.setIfInBounds d.src true) = addS (listS ds L) p := by
  funext r
  simp only [listS, addS]
  obtain ⟨hlt, hpos⟩ := hK.pos_src p d hd
  cases hr : ds[r]? with
  | none =>
    have : r ≠ p := fun e => by subst e; rw [hd] at hr; cases hr
    simp [this]
  | some d' =>
    obtain ⟨hlt', hpos'⟩ := hK.pos_src r d' hr
    by_cases hs : d'.src = d.src
    · have : r = p := by rw [← hpos', ← hpos, hs]
      subst this
      rw [hd] at hr; cases hr
      simp [Array.getD_eq_getD_getElem?, hL, hlt]
    · have : r ≠ p := fun e => by subst e; rw [hd] at hr; cases hr; exact hs rfl
      simp [Array.getD_eq_getD_getElem?, Array.getElem?_setIfInBounds_ne (Ne.symm hs), this]

theorem drw_any {Q : Exit → Act → World → Prop} (hC : CSnd P gl cs) (hF : CEnt P cs) (hts : EqTypes P eqs) (hK : DrwOk ops ds bs pos)
    (hT : AllTold cs lend gl ds base n os0 es (fun p => envS (fun q => decide (q < p)) 0 ds es env0)) (hnx : base + n ≤ nx0)
    (htr : ∀ (p : Nat) (d : DO), ds[p]? = some d → ∃ o : Oper, ops[d.src]? = some o ∧ cC P eqs o.op = some d.op ∧ cGuard ops o.guard = some d.guard ∧ d.dst = o.dst)
    (hQ : ∀ w' a' I' ρ' used', SR gl w0 O I0 ρ0 kept (envS (fun _ => true) 0 ds es env0) (objS (fun _ => true) base 0 es os0) used' w' a' I' ρ' → (∀ h, used' h → h < nxS es nx0) → Q .normal a' w') :
    ∀ (fuel : Nat) (L : Array Bool) (a : Act) (w : World) (I : Nat → Prop) (ρ : Rho) (used : Nat → Prop), L.size = ops.size → L.toList.count false ≤ fuel → Shut ds bs (listS ds L) →
      SR gl w0 O I0 ρ0 kept (envS (listS ds L) 0 ds es env0) (objS (listS ds L) base 0 es os0) used w a I ρ → (∀ h, used h → h < nxS es nx0) →
      (∀ h, used h → h < base ∨ ∃ q, q < n ∧ listS ds L q = true ∧ cls (base + q) n h) → wpAny P .any ops Q fuel L a w := by
  have hdone : ∀ (L : Array Bool) (a : Act) (w : World) (I : Nat → Prop) (ρ : Rho) (used : Nat → Prop), L.size = ops.size →
      SR gl w0 O I0 ρ0 kept (envS (listS ds L) 0 ds es env0) (objS (listS ds L) base 0 es os0) used w a I ρ → (∀ h, used h → h < nxS es nx0) → Region.ready .any ops L = [] → Q .normal a w := by
    intro L a w I ρ used hL hR hu1 hr
    have hall : ∀ p, p < ds.length → listS ds L p = true := by
      intro p
      induction p using Nat.strongRecOn with
      | _ p ihp =>
        intro hp
        have hd : ds[p]? = some ds[p] := List.getElem?_eq_getElem hp
        obtain ⟨hlt, hpos⟩ := hK.pos_src p _ hd
        cases hs : listS ds L p with
        | true => rfl
        | false =>
          simp only [listS, hd] at hs
          have ho : ops[ds[p].src]? = some ops[ds[p].src] := Array.getElem?_eq_getElem hlt
          have hm : ds[p].src ∈ Region.ready .any ops L := by
            rw [mem_ready]
            refine ⟨?_, _, ho, fun e he hb => ?_⟩
            · rw [Array.getD_eq_getD_getElem?] at hs ⊢
              rw [Array.getElem?_eq_getElem (by omega)] at hs ⊢
              exact hs
            · obtain ⟨h1, h2⟩ := hK.edge p _ _ e hd ho he hb
              obtain ⟨d', hd', hsrc⟩ := hK.src_pos e.on h1
              have := ihp (pos e.on) h2 (List.getElem?_eq_some_iff.1 hd').1
              simp only [listS, hd', hsrc] at this
              exact this
          rw [hr] at hm; cases hm
    rw [envS_cong' (S' := fun _ => true) 0 ds es env0 fun k hk => by rw [Nat.zero_add]; exact hall k hk,
      objS_cong' (S' := fun _ => true) 0 es os0 fun k hk => by rw [Nat.zero_add]; exact hall k (by rw [← hT.len]; exact hk)] at hR
    exact hQ w a I ρ used hR hu1
  intro fuel
  induction fuel with
  | zero =>
    intro L a w I ρ used hL hcnt hS hR hu1 hu2
    have hr : Region.ready .any ops L = [] := by
      apply List.eq_nil_iff_forall_not_mem.2
      intro i hi
      rw [mem_ready] at hi
      have h1 := hi.1
      have : false ∈ L.toList := by
        rw [Array.getD_eq_getD_getElem?] at h1
        cases hq : L[i]? with
        | none => rw [hq] at h1; simp at h1
        | some b => rw [hq] at h1; simp at h1; subst h1; exact List.mem_of_getElem? (by rw [Array.getElem?_toList]; exact hq)
      have := List.count_pos_iff.2 this
      omega
    exact ⟨hr, hdone L a w I ρ used hL hR hu1 hr⟩
  | succ fuel ih =>
    intro L a w I ρ used hL hcnt hS hR hu1 hu2
    refine ⟨hdone L a w I ρ used hL hR hu1, fun i hi => ?_⟩
    rw [mem_ready] at hi
    obtain ⟨hi1, o, ho, hi2⟩ := hi
    have hil : i < ops.size := (Array.getElem?_eq_some_iff.1 ho).1
    obtain ⟨d, hd, hsrc⟩ := hK.src_pos i hil
    generalize hp : pos i = p at hd
    have hpn : p < ds.length := (List.getElem?_eq_some_iff.1 hd).1
    obtain ⟨e, he⟩ := es_get hT hd
    have hLi : L[i]? = some false := by
      rw [Array.getD_eq_getD_getElem?] at hi1
      cases hq : L[i]? with
      | none => rw [hq] at hi1; simp at hi1
      | some b => rw [hq] at hi1; simp at hi1; rw [hi1]
    have hSp : listS ds L p = false := by
      simp only [listS, hd, hsrc, Array.getD_eq_getD_getElem?, hLi]; rfl
    have hb : ∀ q ∈ bs p, listS ds L q = true := by
      intro q hq
      obtain ⟨e', he', hbd, hor⟩ := hK.bs_cl p d o q hd (by rw [hsrc]; exact ho) hq
      obtain ⟨h1, h2⟩ := hK.edge p d o e' hd (by rw [hsrc]; exact ho) he' hbd
      obtain ⟨d', hd', hs'⟩ := hK.src_pos e'.on h1
      have hq' : listS ds L (pos e'.on) = true := by simp only [listS, hd', hs']; exact hi2 e' he' hbd
      rcases hor with rfl | hor
      · exact hq'
      · exact hS.shut _ q (List.getElem?_eq_some_iff.1 hd').1 hq' hor
    have hadd := listS_add hK hL hd
    rw [hsrc] at hadd
    obtain ⟨o', ho', t1, t2, t3⟩ := htr p d hd
    rw [hsrc, ho] at ho'
    cases ho'
    have hn := hT.n_eq
    have hcnt' : (L.setIfInBounds i true).toList.count false ≤ fuel := by
      have hlt : i < L.toList.length := by rw [Array.length_toList]; omega
      rw [Array.toList_setIfInBounds, List.count_set hlt]
      have : L.toList[i] = false := by
        have := hLi
        rw [← Array.getElem?_toList, List.getElem?_eq_getElem hlt] at this
        exact Option.some.inj this
      have hc1 : List.count false L.toList - (if (L.toList[i] == false) = true then 1 else 0) + (if (true == false) = true then 1 else 0) = List.count false L.toList - 1 := by
        rw [this]; rfl
      rw [hc1]
      omega
    have hShut : Shut ds bs (listS ds (L.setIfInBounds i true)) := ⟨fun r q hr hs hq => by
      rw [hadd] at hs ⊢
      simp only [addS, Bool.or_eq_true, decide_eq_true_eq] at hs ⊢
      rcases hs with hs | rfl
      · exact .inl (hS.shut r q hr hs hq)
      · exact .inl (hb q hq)⟩
    have henv : putE (envS (listS ds L) 0 ds es env0) d.dst e.v = envS (listS ds (L.setIfInBounds i true)) 0 ds es env0 := by
      rw [hadd]
      have := envS_add (S := listS ds L) p 0 ds es env0 d e hd he (by rw [Nat.zero_add]; exact hSp) fun k dk hk hpk hSk => by
        rw [Nat.zero_add] at hSk
        rcases hK.pair p k d dk hpk hd hk with hin | hU
        · have := hS.shut k p (List.getElem?_eq_some_iff.1 hk).1 hSk hin
          rw [hSp] at this; cases this
        · rcases hU.2.2.1 with h | h | h
          · exact .inr (.inl h)
          · exact .inl h
          · exact .inr (.inr (Ne.symm h))
      rwa [Nat.zero_add] at this
    have hobj : getO (objS (listS ds (L.setIfInBounds i true)) base 0 es os0) = applyE (getO (objS (listS ds L) base 0 es os0)) (base + p) e := by
      rw [hadd]
      have := objS_add (S := listS ds L) (base := base) p 0 es os0 e he (by rw [Nat.zero_add]; exact hSp) fun k ek hk hpk hSk h => by
        rw [Nat.zero_add] at hSk
        rw [Nat.zero_add, Nat.zero_add]
        obtain ⟨dk, hdk⟩ := ds_get hT hk
        by_cases hin : p ∈ bs k
        · have := hS.shut k p (List.getElem?_eq_some_iff.1 hdk).1 hSk hin
          rw [hSp] at this; cases this
        · rcases hK.pair p k d dk hpk hd hdk with hin' | hU
          · exact absurd hin' hin
          · exact apart hK hT hpk hd hdk he hk hin hU h
      rwa [Nat.zero_add] at this
    have hfree : ∀ h, cls (base + p) n h → ¬ used h := fun h hc hu => by
      rcases hu2 h hu with hlow | ⟨q, hq, hSq, hc'⟩
      · have := cls_low hc; omega
      · have := cls_inj (by omega) hq hc hc'
        subst this
        rw [hSp] at hSq; cases hSq
    simp only [wpOp, ho]
    rcases told_at hK hT hS hd he hSp hb with ⟨hw, hst⟩ | ⟨hw, rfl⟩
    · rw [wantD_sound (o := o) hR.envr t2 hw, if_pos rfl]
      left
      rw [evL_eq] at hst
      refine stepC_sound hC hF hR.rel hfree (by omega) hR.envr hR.glr hts t1 hst ?_
      intro cv w' I' ρ' q1 q2 q3
      have hR' := hR.after o.dst q1 q2 q3
      rw [← t3, henv] at hR'
      rw [← t3]
      have hR2 : SR gl w0 O I0 ρ0 kept (envS (listS ds (L.setIfInBounds i true)) 0 ds es env0) (objS (listS ds (L.setIfInBounds i true)) base 0 es os0) _ w' _ I' ρ' :=
        ⟨by rw [hobj]; exact q2, hR'.envr, hR'.len, hR'.glr, hR'.keep, hR'.dfr⟩
      refine ih _ _ w' I' ρ' _ (by simpa using hL) hcnt' hShut hR2 (fun h hh => ?_) (fun h hh => ?_)
      · have hnx' := nxS_le es nx0
        rcases hh with hh | hh | ⟨_, hh⟩
        · exact hu1 h hh
        · have := hnx'.1; omega
        · exact hnx'.2 e (List.mem_of_getElem? he) h hh
      · have hSp' : listS ds (L.setIfInBounds i true) p = true := by rw [hadd]; simp [addS]
        rcases hh with hh | hh | ⟨hh, _⟩
        · rcases hu2 h hh with q | ⟨q, hq, hSq, hc⟩
          · exact .inl q
          · exact .inr ⟨q, hq, by rw [hadd]; simp [addS, hSq], hc⟩
        · subst hh; exact .inr ⟨p, by omega, hSp', cls_mk _ _ 0⟩
        · exact .inr ⟨p, by omega, hSp', hh⟩
    · rw [wantD_sound (o := o) hR.envr t2 hw]
      simp only [Bool.false_eq_true, if_false]
      have hR' := hR.skip o.dst
      rw [← t3] at hR' ⊢
      have henv' : putE (envS (listS ds L) 0 ds es env0) d.dst (V.tup []) = envS (listS ds (L.setIfInBounds i true)) 0 ds es env0 := henv
      rw [henv'] at hR'
      have hR2 : SR gl w0 O I0 ρ0 kept (envS (listS ds (L.setIfInBounds i true)) 0 ds es env0) (objS (listS ds (L.setIfInBounds i true)) base 0 es os0) used w (a.put d.dst Go.undef) I ρ :=
        ⟨by rw [hobj]; exact hR.rel, hR'.envr, hR'.len, hR'.glr, hR'.keep, hR'.dfr⟩
      refine ih _ _ w I ρ used (by simpa using hL) hcnt' hShut hR2 hu1 (fun h hh => ?_)
      rcases hu2 h hh with q | ⟨q, hq, hSq, hc⟩
      · exact .inl q
      · exact .inr ⟨q, hq, by rw [hadd]; simp [addS, hSq], hc⟩
end
end Go.Dm
set_option linter.unusedSimpArgs false
set_option linter.unusedVariables false
set_option linter.unusedSectionVars false
namespace Go.Dm

def predsP (ops : Array Oper) (srcs : List Nat) (d : DO) : List Nat :=
  match ops[d.src]? with
  | some o => (o.after.toList.filter (Region.binds .any)).map fun e => srcs.idxOf e.on
  | none => []
def befP : List (List Nat) → List (List Nat) → List (List Nat)
  | [], acc => acc
  | pr :: r, acc => befP r (acc ++ [pr.foldl (fun l q => (acc.getD q []).foldl addN (addN l q)) []])
def dstIn (d : DO) (l : List Nat) : Bool := match d.dst with
  | some t => l.contains t
  | none => false
def dstEq (a b : DO) : Bool := match a.dst, b.dst with
  | some s, some t => s == t
  | _, _ => false
def unordB (dq dp : DO) (q : Nat) : Bool :=
  !dstIn dq (slotsD dp) && !dstIn dp (slotsD dq) && !dstEq dq dp && (blind dp.op || calm dq.op || dp.conf.contains q) && (blind dq.op || calm dp.op || dp.still)
def chk1 (ops : Array Oper) (ds : List DO) (srcs : List Nat) (prs bl : List (List Nat)) (p : Nat) : Bool :=
  match ds[p]? with
  | none => false
  | some d => decide (d.src < ops.size) && (srcs.idxOf d.src == p) &&
    (match ops[d.src]? with | some o => o.after.toList.all fun e => !Region.binds .any e || (decide (e.on < ops.size) && decide (srcs.idxOf e.on < p)) | none => false) &&
    ((bl.getD p []).all fun q => decide (q < p) && ((prs.getD p []).any fun r => q == r || (bl.getD r []).contains q) && ((bl.getD q []).all fun v => (bl.getD p []).contains v)) &&
    ((List.range p).all fun q => (bl.getD p []).contains q || (match ds[q]? with | some dq => unordB dq d q | none => false)) &&
    (d.vis == (List.range' 0 p).filter fun q => d.vis.contains q) && (d.vis.all fun q => (bl.getD p []).contains q) &&
    ((bl.getD p []).all fun q => match ds[q]? with | some dq => quiet dq.op || blind d.op || d.vis.contains q | none => false) &&
    (d.conf.all fun q => decide (q < p))
def chkDrw (ops : Array Oper) (ds : List DO) : Bool :=
  let srcs := ds.map (·.src)
  let prs := ds.map (predsP ops srcs)
  let bl := befP prs []
  (ds.length == ops.size) && ((List.range ds.length).all (chk1 ops ds srcs prs bl)) && ((List.range ops.size).all fun i => match ds[srcs.idxOf i]? with | some d => d.src == i | none => false)

theorem unordB_spec {dq dp : DO} {q : Nat} (h : unordB dq dp q = true) : Unord dq dp q := by
  simp only [unordB, Bool.and_eq_true, Bool.not_eq_true', Bool.or_eq_true] at h
  obtain ⟨⟨⟨⟨h1, h2⟩, h3⟩, h4⟩, h5⟩ := h
  refine ⟨fun t ht hm => ?_, fun t ht hm => ?_, ?_, ?_, ?_⟩
  · simp [dstIn, ht, hm] at h1
  · simp [dstIn, ht, hm] at h2
  · unfold dstEq at h3
    cases ha : dq.dst with
    | none => exact .inl rfl
    | some s =>
      cases hb : dp.dst with
      | none => exact .inr (.inl rfl)
      | some t =>
        rw [ha, hb] at h3
        exact .inr (.inr (by simpa using h3))
  · rcases h4 with (h | h) | h
    · exact .inl h
    · exact .inr (.inl h)
    · exact .inr (.inr (by simpa using h))
  · rcases h5 with (h | h) | h
    · exact .inl h
    · exact .inr (.inl h)
    · exact .inr (.inr h)

theorem chkDrw_spec {ops : Array Oper} {ds : List DO} (h : chkDrw ops ds = true) :
    DrwOk ops ds (fun p => (befP (ds.map (predsP ops (ds.map (·.src)))) []).getD p []) (fun i => (ds.map (·.src)).idxOf i) := by
  unfold chkDrw at h
  simp only [Bool.and_eq_true] at h
  generalize hsrcs : ds.map (·.src) = srcs at *
  generalize hprs : ds.map (predsP ops srcs) = prs at *
  generalize hbl : befP prs [] = bl at *
  obtain ⟨⟨h1, h2⟩, h3⟩ := h
  have each : ∀ (p : Nat) (d : DO), ds[p]? = some d → (d.src < ops.size ∧ srcs.idxOf d.src = p) ∧
      (∀ o, ops[d.src]? = some o → ∀ e ∈ o.after, Region.binds .any e = true → e.on < ops.size ∧ srcs.idxOf e.on < p) ∧
      (∀ q ∈ bl.getD p [], q < p ∧ (∃ r ∈ prs.getD p [], q = r ∨ q ∈ bl.getD r []) ∧ ∀ v ∈ bl.getD q [], v ∈ bl.getD p []) ∧
      (∀ q dq, q < p → ds[q]? = some dq → q ∈ bl.getD p [] ∨ Unord dq d q) ∧
      d.vis = (List.range' 0 p).filter (fun q => d.vis.contains q) ∧ (∀ q ∈ d.vis, q ∈ bl.getD p []) ∧
      (∀ q dq, q ∈ bl.getD p [] → ds[q]? = some dq → quiet dq.op = true ∨ blind d.op = true ∨ q ∈ d.vis) ∧ ∀ q ∈ d.conf, q < p := by
    intro p d hd
    have hp : p < ds.length := (List.getElem?_eq_some_iff.1 hd).1
    have hc := List.all_eq_true.1 h2 p (List.mem_range.2 hp)
    unfold chk1 at hc
    rw [hd] at hc
    simp only [Bool.and_eq_true, decide_eq_true_eq, beq_iff_eq] at hc
    obtain ⟨⟨⟨⟨⟨⟨⟨⟨c1, c2⟩, c3⟩, c4⟩, c5⟩, c6⟩, c7⟩, c8⟩, c9⟩ := hc
    refine ⟨⟨c1, c2⟩, fun o ho e he hb => ?_, fun q hq => ?_, fun q dq hq hdq => ?_, c6, fun q hq => ?_, fun q dq hq hdq => ?_, fun q hq => ?_⟩
    · rw [ho] at c3
      have := List.all_eq_true.1 c3 e (Array.mem_toList_iff.2 he)
      simp only [hb, Bool.not_true, Bool.false_or, Bool.and_eq_true, decide_eq_true_eq] at this
      exact this
    · have := List.all_eq_true.1 c4 q hq
      simp only [Bool.and_eq_true, decide_eq_true_eq, List.any_eq_true, Bool.or_eq_true, beq_iff_eq, List.all_eq_true, List.contains_iff_mem] at this
      exact ⟨this.1.1, this.1.2, this.2⟩
    · have := List.all_eq_true.1 c5 q (List.mem_range.2 hq)
      rw [hdq] at this
      simp only [Bool.or_eq_true, List.contains_iff_mem] at this
      exact this.imp id unordB_spec
    · have := List.all_eq_true.1 c7 q hq
      simpa using this
    · have := List.all_eq_true.1 c8 q hq
      rw [hdq] at this
      simp only [Bool.or_eq_true, List.contains_iff_mem] at this
      rcases this with (h | h) | h
      · exact .inl h
      · exact .inr (.inl h)
      · exact .inr (.inr h)
    · have := List.all_eq_true.1 c9 q hq
      simpa using this
  have get : ∀ p, p < ds.length → ∃ d, ds[p]? = some d := fun p hp => ⟨_, List.getElem?_eq_getElem hp⟩
  refine ⟨by simpa using h1, fun p d hd => (each p d hd).1, fun i hi => ?_, fun p d o e hd ho he hb => (each p d hd).2.1 o ho e he hb, fun p d o q hd ho hq => ?_, fun p q v hp hq hv => ?_, fun p q hp hq => ?_,
    fun q p dq dp hqp hq hp => (each p dp hp).2.2.2.1 q dq hqp hq, fun p d hd => (each p d hd).2.2.2.2.1, fun p d q hd hq => (each p d hd).2.2.2.2.2.1 q hq,
    fun p q dp dq hp hq hb => (each p dp hp).2.2.2.2.2.2.1 q dq hb hq, fun p d q hd hq => (each p d hd).2.2.2.2.2.2.2 q hq⟩
  · have := List.all_eq_true.1 h3 i (List.mem_range.2 hi)
    split at this
    · rename_i d hd
      exact ⟨d, hd, by simpa using this⟩
    · cases this
  · obtain ⟨_, ⟨r, hr, hor⟩, _⟩ := (each p d hd).2.2.1 q hq
    have hpr : prs.getD p [] = predsP ops srcs d := by
      rw [← hprs, List.getD_eq_getElem?_getD, List.getElem?_map, hd]; rfl
    rw [hpr] at hr
    unfold predsP at hr
    rw [ho] at hr
    obtain ⟨e, he, rfl⟩ := List.mem_map.1 hr
    obtain ⟨he1, he2⟩ := List.mem_filter.1 he
    exact ⟨e, Array.mem_toList_iff.1 he1, he2, hor⟩
  · obtain ⟨d, hd⟩ := get p hp
    exact ((each p d hd).2.2.1 q hq).2.2 v hv
  · obtain ⟨d, hd⟩ := get p hp
    exact ((each p d hd).2.2.1 q hq).1
end Go.Dm
set_option linter.unusedSimpArgs false
set_option linter.unusedVariables false
set_option linter.unusedSectionVars false
namespace Go.Dm

section
variable {P : Program} {w0 w : World} {O I0 I : Nat → Prop} {ρ0 ρ : Rho} {used : Nat → Prop} {gl : Nat → Option (List V)} {a : Act} {eqs : List TypeId} {kept : Nat} {cs : CallSem} {lend : Nat → List Bool}

/-- A state of the machine with a frame's. -/
def SS (gl : Nat → Option (List V)) (w0 : World) (O I0 : Nat → Prop) (ρ0 : Rho) (kept : Nat) (s : St) (a : Act) (w : World) : Prop :=
  s.kept = kept ∧ ∃ used I ρ, SR gl w0 O I0 ρ0 kept s.env s.objs used w a I ρ ∧ ∀ h, used h → h < s.nxt

theorem putL_length : ∀ (ts : List Nat) (vs env : List V), (putL ts vs env).length = env.length
  | [], vs, env => by cases vs <;> rfl
  | t :: ts, [], env => rfl
  | t :: ts, v :: vs, env => by simp only [putL]; rw [putL_length ts vs]; simp
theorem putL_all {p : Nat → V → Prop} {F : Nat → V} (hu : ∀ t, p t .undef) (hF : ∀ t, p t (F t)) : ∀ (ts : List Nat) (env : List V), (∀ t, p t (env.getD t .undef)) → ∀ t, p t ((putL ts (ts.map F) env).getD t .undef)
  | [], env, h, t => h t
  | k :: ts, env, h, t => by
    simp only [List.map_cons, putL]
    refine putL_all hu hF ts (env.set k (F k)) (fun j => ?_) t
    by_cases hk : k < env.length
    · rw [set_getD env k _ j hk]
      split
      · rename_i e; subst e; exact hF j
      · exact h j
    · rw [List.set_eq_of_length_le (by omega)]; exact h j

theorem canon_sound {live : List Nat} {s s1 : St} (hs : SS gl w0 O I0 ρ0 kept s a w) (h : canon live s = some s1) : SS gl w0 O I0 ρ0 kept s1 a w := by
  obtain ⟨hk, used, I, ρ, hS, hu⟩ := hs
  unfold canon at h
  simp only at h
  split at h
  case h_2 => cases h
  rename_i os hp
  cases h
  generalize hns : reach s.objs bfs 0 (handsL (List.range s.kept) (live.map fun t => s.env.getD t .undef)) = ns at *
  have hpre : Pre (List.range s.kept) ns := by rw [← hns]; exact (handsL_pre _ _).trans (reach_pre _ bfs 0 _)
  have hnod : ns.Nodup := hpre.2 List.nodup_range
  refine ⟨hk, (· < ns.length), I, rhoN ρ ns, ⟨hS.rel.names hnod hp, ?_, ?_, hS.glr, ?_, hS.dfr⟩, fun h hh => hh⟩
  · intro t
    rw [List.map_map]
    refine putL_all (p := fun t x => R w I (rhoN ρ ns) (a.tmps.getD t Go.undef) x) (F := _) (fun t => RL.undef _ RL.nil) (fun t => ?_) live _ (fun t => ?_) t
    · show R w I (rhoN ρ ns) (a.tmps.getD t Go.undef) ((ren (posN · ns 0) (s.env.getD t .undef)).getD .undef)
      cases hr : ren (posN · ns 0) (s.env.getD t .undef) with
      | none => exact RL.undef _ RL.nil
      | some x => exact R.ren (hS.envr t) (rhoN_ok ρ ns) hr
    · have : (List.replicate s.env.length V.undef).getD t .undef = .undef := by
        rw [List.getD_eq_getElem?_getD, List.getElem?_replicate]
        split <;> rfl
      rw [this]
      exact RL.undef _ RL.nil
  · rw [putL_length, List.length_replicate]; exact hS.len
  · intro i p hi hp0
    obtain ⟨⟨t, ht⟩, _⟩ := hpre
    have : ns[i]? = some i := by
      rw [ht, List.getElem?_append_left (by rw [List.length_range]; omega)]
      rw [List.getElem?_range (by omega)]
    simp only [rhoN, this, Option.bind_some]
    exact hS.keep i p hi hp0

def exitOf : Ex → Exit
  | .nrm => .normal
  | .exit id => .exit id
  | .ret => .ret

theorem exists_least {p : Nat → Prop} : ∀ n, p n → ∃ m, p m ∧ ∀ k, p k → m ≤ k := by
  intro n
  induction n using Nat.strongRecOn with
  | _ n ih =>
    intro hn
    by_cases h : ∃ k, k < n ∧ p k
    · obtain ⟨k, hk, hp⟩ := h
      exact ih k hk hp
    · exact ⟨n, hn, fun k hk => Nat.le_of_not_lt fun hlt => h ⟨k, hlt, hk⟩⟩

open Classical in
noncomputable def least (p : Nat → Prop) : Nat := if h : ∃ n, p n then Classical.choose (exists_least h.choose h.choose_spec) else 0
theorem least_spec {p : Nat → Prop} {n : Nat} (h : p n) : p (least p) ∧ ∀ k, p k → least p ≤ k := by
  have h' : ∃ n, p n := ⟨n, h⟩
  unfold least
  rw [dif_pos h']
  exact Classical.choose_spec (exists_least h'.choose h'.choose_spec)

theorem loop_sound {c : Code} {f : St → Option (Ex × St)} {live : List Nat} {Q : Exit → Act → World → Prop} {ex : Ex} {s' : St}
    (hf : ∀ (s : St) (e : Ex) (s2 : St) (a : Act) (w : World) (Q' : Exit → Act → World → Prop), f s = some (e, s2) → SS gl w0 O I0 ρ0 kept s a w → (∀ a' w', SS gl w0 O I0 ρ0 kept s2 a' w' → Q' (exitOf e) a' w') → c.wp P Q' a w)
    (n : Nat) (s : St) (h : loopN f (canon live) n s = some (ex, s')) (hs : SS gl w0 O I0 ρ0 kept s a w) (hQ : ∀ a' w', SS gl w0 O I0 ρ0 kept s' a' w' → Q (exitOf ex) a' w') : (Code.loop c).wp P Q a w := by
  let J : Nat → Act → World → Prop := fun n a w => ∃ s, SS gl w0 O I0 ρ0 kept s a w ∧ loopN f (canon live) n s = some (ex, s')
  refine wp_loop (fun a w => ∃ n, J n a w) (fun a w => least fun n => J n a w) ⟨n, s, hs, h⟩ ?_
  rintro a w ⟨n, hn⟩
  obtain ⟨⟨s, hs, hl⟩, hmin⟩ := least_spec (p := fun n => J n a w) hn
  generalize hm : (least fun n => J n a w) = m at *
  cases m with
  | zero => simp [loopN] at hl
  | succ m =>
    simp only [loopN] at hl
    split at hl
    · cases hl
    rename_i s1 hc
    have hs1 := canon_sound hs hc
    split at hl
    · rename_i s2 hf2
      refine hf s1 .nrm s2 a w _ hf2 hs1 fun a' w' hs2 => ?_
      have hj : J m a' w' := ⟨s2, hs2, hl⟩
      refine ⟨⟨m, hj⟩, ?_⟩
      have := (least_spec (p := fun n => J n a' w') hj).2 m hj
      omega
    · rename_i hne
      refine hf s1 ex s' a w _ hl hs1 fun a' w' hs2 => ?_
      have := hQ a' w' hs2
      cases ex with
      | nrm => exact absurd hl (hne s')
      | exit id => exact this
      | ret => exact this

def cDrwL (P : Program) (eqs : List TypeId) (ops : Array Oper) : List DO → Option (List DO)
  | [] => some []
  | h :: r => match cDO P eqs ops h.src h.vis h.conf h.still, cDrwL P eqs ops r with
    | some d, some x => some (d :: x)
    | _, _ => none
def cDrw (P : Program) (eqs : List TypeId) (ops : Array Oper) (h : List DO) : Option (List DO) :=
  match cDrwL P eqs ops h with
  | some ds => if chkDrw ops ds = true then some ds else none
  | none => none
theorem cDrwL_get {ops : Array Oper} : ∀ {h ds : List DO}, cDrwL P eqs ops h = some ds → ∀ (p : Nat) (d : DO), ds[p]? = some d → ∃ o : Oper, ops[d.src]? = some o ∧ cC P eqs o.op = some d.op ∧ cGuard ops o.guard = some d.guard ∧ d.dst = o.dst
  | [], ds, h, p, d, hd => by simp [cDrwL] at h; subst h; simp at hd
  | x :: r, ds, h, p, d, hd => by
    simp only [cDrwL] at h
    split at h
    · rename_i d0 y h1 h2
      cases h
      cases p with
      | zero =>
        simp only [List.getElem?_cons_zero, Option.some.injEq] at hd
        subst hd
        obtain ⟨o, q1, q2, q3, q4, q5, _⟩ := cDO_some h1
        exact ⟨o, by rw [q5]; exact q1, q2, q3, q4⟩
      | succ p => exact cDrwL_get h2 p d (by simpa using hd)
    · cases h

/-- A code, translated: the loops' lists and the orders are the hint's. -/
def cCode (P : Program) (eqs : List TypeId) : DCode → Code → Option DCode
  | .frz ts h, c => (cCode P eqs h c).map (.frz ts)
  | .skip, c => match c with
    | .skip => some .skip
    | _ => none
  | .seqr _, c => match c with
    | .region _ ops false => (cSeq P eqs ops ops.size 0).map .seqr
    | _ => none
  | .drwr h, c => match c with
    | .region _ ops true => (cDrw P eqs ops h).map .drwr
    | _ => none
  | .seq x y, c => match c with
    | .seq a b => match cCode P eqs x a, cCode P eqs y b with
      | some x, some y => some (.seq x y)
      | _, _ => none
    | _ => none
  | .cond _ x y, c => match c with
    | .cond q a b => match cX q, cCode P eqs x a, cCode P eqs y b with
      | some q, some x, some y => some (.cond q x y)
      | _, _, _ => none
    | _ => none
  | .block _ x, c => match c with
    | .block id b => (cCode P eqs x b).map (.block id)
    | _ => none
  | .loop live x, c => match c with
    | .loop b => (cCode P eqs x b).map (.loop live)
    | _ => none
  | .exit _, c => match c with
    | .exit id => some (.exit id)
    | _ => none
  | .ret, c => match c with
    | .ret => some .ret
    | _ => none

theorem cSeq_length {ops : Array Oper} : ∀ {m j : Nat} {ds : List DO}, cSeq P eqs ops m j = some ds → ds.length = m
  | 0, j, ds, h => by simp [cSeq] at h; subst h; rfl
  | m + 1, j, ds, h => by
    simp only [cSeq] at h
    split at h
    · rename_i h1 h2
      cases h
      simp [cSeq_length h2]
    · cases h

theorem exec_sound (hm : P.follows .mixedOrders = true) (hC : CSnd P gl cs) (hF : CEnt P cs) (hts : EqTypes P eqs) : ∀ (hint : DCode) (c : Code) (d : DCode), cCode P eqs hint c = some d → ∀ (s : St) (ex : Ex) (s' : St) (a : Act) (w : World) (Q : Exit → Act → World → Prop),
    exec cs lend gl d s = some (ex, s') → SS gl w0 O I0 ρ0 kept s a w → (∀ a' w', SS gl w0 O I0 ρ0 kept s' a' w' → Q (exitOf ex) a' w') → c.wp P Q a w := by
  intro hint
  induction hint with
  | frz ts x ih =>
    intro c d hc s ex s' a w Q h hs hQ
    simp only [cCode] at hc
    obtain ⟨x', h1, rfl⟩ := Option.map_eq_some_iff.1 hc
    simp only [exec] at h
    obtain ⟨hk, used, I, ρ, hS, hu⟩ := hs
    obtain ⟨⟨I', hS'⟩, e1, e2⟩ := frzT_sound ts s I hS
    exact ih c x' h1 _ ex s' a w Q h ⟨e2.trans hk, used, I', ρ, hS', fun h hh => by rw [e1]; exact hu h hh⟩ hQ
  | skip =>
    intro c d hc s ex s' a w Q h hs hQ
    simp only [cCode] at hc
    split at hc <;> cases hc
    simp only [exec, Option.some.injEq, Prod.mk.injEq] at h
    obtain ⟨rfl, rfl⟩ := h
    exact wp_skip (hQ a w hs)
  | seqr ds =>
    intro c d hc s ex s' a w Q h hs hQ
    simp only [cCode] at hc
    split at hc
    · rename_i ops
      obtain ⟨ds, hd, rfl⟩ := Option.map_eq_some_iff.1 hc
      simp only [exec] at h
      obtain ⟨p, hp, hpe⟩ := Option.map_eq_some_iff.1 h
      cases hpe
      obtain ⟨env', os', nx'⟩ := p
      obtain ⟨hk, used, I, ρ, hS, hu⟩ := hs
      have hlen := cSeq_length hd
      refine wp_region ?_
      rw [List.range_eq_range']
      refine runSeq_sound (base := s.nxt) (n := ds.length) hC hF hts ops.size 0 ds s.env s.objs _ used w a I ρ env' os' nx' hd (by omega) hp hS ⟨fun h hh => by have := hu h hh; omega, Nat.le_refl _, fun h hh => .inl (hu h hh)⟩ ?_
      intro w' a' I' ρ' used' hS' hu'
      exact hQ a' w' ⟨hk, used', I', ρ', hS', hu'⟩
    · cases hc
  | drwr hs0 =>
    intro c d hc s ex s' a w Q h hs hQ
    simp only [cCode] at hc
    split at hc
    · rename_i ops
      obtain ⟨ds, hd, rfl⟩ := Option.map_eq_some_iff.1 hc
      unfold cDrw at hd
      split at hd
      · rename_i ds' hl
        split at hd
        · rename_i hchk
          cases hd
          simp only [exec] at h
          obtain ⟨p, hp, hpe⟩ := Option.map_eq_some_iff.1 h
          cases hpe
          obtain ⟨env', os', nx'⟩ := p
          obtain ⟨hk, used, I, ρ, hS, hu⟩ := hs
          obtain ⟨es, e1, e2, e3, e4, e5⟩ := runDrw_told _ _ _ _ _ _ _ _ _ hp rfl
          have hK := chkDrw_spec hchk
          have hlow : ∀ h o, getO s.objs h = some o → h < s.nxt := fun h o hg => by
            obtain ⟨b, t, q, _⟩ := hS.rel.obj h o hg
            exact hu h (hS.rel.dom h _ q)
          have hT : AllTold cs lend gl ds s.nxt ds.length s.objs es (fun p => envS (fun q => decide (q < p)) 0 ds es s.env) :=
            ⟨e1, rfl, hlow, fun p d e hd he => by have := e5 p d e hd he; simpa only [List.nil_append, Nat.zero_add] using this⟩
          have hx := Ext.drew w I ρ
          have hR0 : SR gl w0 O I0 ρ0 kept s.env s.objs used { w with drawn := w.drawn + 1 } a I ρ :=
            ⟨hS.rel.drew, fun t => hx.rl (hS.envr t), hS.len, hS.glr.ext hx, hS.keep, hS.dfr⟩
          have hnone : ∀ p, listS ds (Array.replicate ops.size false) p = false := fun p => by
            simp only [listS]
            split
            · rw [Array.getD_eq_getD_getElem?, Array.getElem?_replicate]; split <;> rfl
            · rfl
          have hE0 : ∀ (S : Nat → Bool), (∀ p, S p = false) → ∀ (j : Nat) (ds : List DO) (es : List Eff) (env : List V), envS S j ds es env = env := by
            intro S hS j ds
            induction ds generalizing j with
            | nil => intro es env; cases es <;> rfl
            | cons d ds ih => intro es env; cases es with
              | nil => rfl
              | cons e es => simp only [envS, hS, Bool.false_eq_true, if_false]; exact ih (j + 1) es env
          have hO0 : ∀ (S : Nat → Bool), (∀ p, S p = false) → ∀ (j : Nat) (es : List Eff) (os : Objs), objS S s.nxt j es os = os := by
            intro S hS j es
            induction es generalizing j with
            | nil => intro os; rfl
            | cons e es ih => intro os; simp only [objS, hS, Bool.false_eq_true, if_false]; exact ih (j + 1) os
          have hnxle := (nxS_le es (s.nxt + ds.length)).1
          refine wp_region_any hm (drw_any (w0 := w0) (O := O) (I0 := I0) (ρ0 := ρ0) (kept := kept) hC hF hts hK hT (Nat.le_refl _) (cDrwL_get hl) ?_ ops.size _ a _ I ρ used (by simp) (by simp) ⟨fun p q _ hp => by rw [hnone] at hp; cases hp⟩ ?_ (fun h hh => by have := hu h hh; omega) (fun h hh => .inl (hu h hh)))
          · intro w' a' I' ρ' used' hS' hu'
            exact hQ a' w' ⟨hk, used', I', ρ', by rw [e2, e3]; exact hS', by rw [e4]; exact hu'⟩
          · rw [hE0 _ hnone, hO0 _ hnone]; exact hR0
        · cases hd
      · cases hd
    · cases hc
  | seq x y ihx ihy =>
    intro c d hc s ex s' a w Q h hs hQ
    simp only [cCode] at hc
    split at hc
    · rename_i p q
      split at hc
      · rename_i x' y' h1 h2
        cases hc
        simp only [exec] at h
        split at h
        · rename_i s1 hx
          exact wp_seq (ihx p x' h1 s .nrm s1 a w _ hx hs fun a' w' hs1 => ihy q y' h2 s1 ex s' a' w' Q h hs1 hQ)
        · rename_i hne
          refine wp_seq (ihx p x' h1 s ex s' a w _ h hs fun a' w' hs1 => ?_)
          have := hQ a' w' hs1
          cases ex with
          | nrm => exact absurd h (hne s')
          | exit id => exact this
          | ret => exact this
      · cases hc
    · cases hc
  | cond q0 x y ihx ihy =>
    intro c d hc s ex s' a w Q h hs hQ
    simp only [cCode] at hc
    split at hc
    · rename_i q p r
      split at hc
      · rename_i q' x' y' h0 h1 h2
        cases hc
        simp only [exec] at h
        obtain ⟨hk, used, I, ρ, hS, hu⟩ := id hs
        have hv : R w I ρ (a.eval q) (evL s.env q') := by
          rw [evL_eq]
          exact cX_sound hS.envr h0
        split at h
        · rename_i hb
          rw [hb] at hv
          exact wp_cond_true (inv_bool hv) (ihx p x' h1 s ex s' a w Q h hs hQ)
        · rename_i hb
          rw [hb] at hv
          exact wp_cond_false (inv_bool hv) (ihy r y' h2 s ex s' a w Q h hs hQ)
        · cases h
      · cases hc
    · cases hc
  | block id0 x ih =>
    intro c d hc s ex s' a w Q h hs hQ
    simp only [cCode] at hc
    split at hc
    · rename_i id b
      obtain ⟨x', h1, rfl⟩ := Option.map_eq_some_iff.1 hc
      simp only [exec] at h
      split at h
      · rename_i i s1 hx
        refine wp_block (ih b x' h1 s (.exit i) s1 a w _ hx hs fun a' w' hs1 => ?_)
        simp only [exitOf, Exit.inBlock]
        split at h
        · rename_i e
          cases h
          rw [if_pos e]
          exact hQ a' w' hs1
        · rename_i e
          cases h
          rw [if_neg e]
          exact hQ a' w' hs1
      · rename_i hne
        refine wp_block (ih b x' h1 s ex s' a w _ h hs fun a' w' hs1 => ?_)
        have := hQ a' w' hs1
        cases ex with
        | nrm => exact this
        | exit i => exact absurd h (hne i s')
        | ret => exact this
    · cases hc
  | loop live x ih =>
    intro c d hc s ex s' a w Q h hs hQ
    simp only [cCode] at hc
    split at hc
    · rename_i b
      obtain ⟨x', h1, rfl⟩ := Option.map_eq_some_iff.1 hc
      simp only [exec] at h
      exact loop_sound (fun s e s2 a w Q' hf hs hq => ih b x' h1 s e s2 a w Q' hf hs hq) loopFuel s h hs hQ
    · cases hc
  | exit id =>
    intro c d hc s ex s' a w Q h hs hQ
    simp only [cCode] at hc
    split at hc <;> cases hc
    simp only [exec, Option.some.injEq, Prod.mk.injEq] at h
    obtain ⟨rfl, rfl⟩ := h
    exact wp_exit (hQ a w hs)
  | ret =>
    intro c d hc s ex s' a w Q h hs hQ
    simp only [cCode] at hc
    split at hc <;> cases hc
    simp only [exec, Option.some.injEq, Prod.mk.injEq] at h
    obtain ⟨rfl, rfl⟩ := h
    exact wp_ret (hQ a w hs)
end
end Go.Dm
set_option linter.unusedSimpArgs false
set_option linter.unusedVariables false
set_option linter.unusedSectionVars false
namespace Go.Dm

def cRes (P : Program) : List ResultVar → Option (List DRes)
  | [] => some []
  | .tmp t :: r => (cRes P r).map (.tmp t :: ·)
  | .cell a t :: r => match sizT P t, aggT P t, cRes P r with
    | some n, some g, some x => some (.cell a n g :: x)
    | _, _, _ => none

/-- A function, translated. -/
def cFun (P : Program) (eqs : List TypeId) (lend : List Bool) (hint : DCode) (fn : Func) : Option DFun :=
  match fn.body, fn.name == "runtime.NumGoroutine" with
  | some c, false => match cCode P eqs hint c, cRes P fn.results.toList with
    | some d, some rs => some ⟨fn.ntmps, lend, rs, d⟩
    | _, _ => none
  | _, _ => none

section
variable {P : Program} {w0 w : World} {O I0 I : Nat → Prop} {ρ0 ρ : Rho} {used : Nat → Prop} {gl : Nat → Option (List V)} {a : Act} {eqs : List TypeId} {kept : Nat} {cs : CallSem} {lend : Nat → List Bool}

theorem load_result {t n : Nat} {agg : Bool} {g : Nat → Option Obj} {v : Value} {p x : V} (hR : Rel w0 O I0 I ρ g used w) (hn : sizT P t = some n) (ha : aggT P t = some agg) (hv : R w I ρ v p) (hx : loadV g n agg p = some x) :
    ∃ u, (do loadVar t (← asAddr v) : Sem Value).run P w = .ok u w ∧ R w I ρ u x := by
  have hp : ∃ ad, v = .pointer (some ad) := by
    unfold loadV at hx
    split at hx
    · obtain ⟨b, s, rfl, _⟩ := inv_hp hv; exact ⟨_, rfl⟩
    · obtain ⟨b, o, cs, rfl, _⟩ := inv_pt hv; exact ⟨_, rfl⟩
    · cases hx
  obtain ⟨ad, rfl⟩ := hp
  obtain ⟨u, hu, hr⟩ := snd_load (gl := fun _ => none) hR ha hn hv hx
  refine ⟨u, ?_, hr⟩
  simpa [Instr.loadAt, Instr.sureAddr, asAddr, Sem.run_bind] using hu

def resM (tmps : Array Value) (r : ResultVar) : Sem Value :=
  match r with
  | .tmp t => pure (tmps.getD t Go.undef)
  | .cell q t => do loadVar t (← asAddr (tmps.getD q Go.undef))
theorem results_eq (fn : Func) (tmps : Array Value) : results fn tmps = (do
    let vs ← fn.results.mapM (resM tmps)
    pure (if h : vs.size = 1 then vs[0] else .tuple vs)) := by
  unfold results
  congr 1

theorem resV_sound {s : St} (hR : Rel w0 O I0 I ρ (getO s.objs) used w) (hE : EnvR w I ρ a fun t => s.env.getD t .undef) : ∀ (rs : List ResultVar) (ds : List DRes) (vs : List V), cRes P rs = some ds → resV s ds = some vs →
    ∃ us, (rs.mapM (resM a.tmps)).run P w = .ok us w ∧ RL w I ρ us vs
  | [], ds, vs, h, hv => by
    simp only [cRes, Option.some.injEq] at h
    subst h
    simp only [resV, Option.some.injEq] at hv
    subst hv
    exact ⟨[], by simp, RL.nil⟩
  | .tmp t :: r, ds, vs, h, hv => by
    simp only [cRes] at h
    obtain ⟨ds', hd, rfl⟩ := Option.map_eq_some_iff.1 h
    simp only [resV] at hv
    obtain ⟨vs', hv', rfl⟩ := Option.map_eq_some_iff.1 hv
    obtain ⟨us, h1, h2⟩ := resV_sound hR hE r ds' vs' hd hv'
    exact ⟨_ :: us, by simp only [List.mapM_cons, resM, Sem.run_bind, Sem.run_pure, Result.andThen_ok, h1], RL.cons (hE t) h2⟩
  | .cell q t :: r, ds, vs, h, hv => by
    simp only [cRes] at h
    split at h
    · rename_i n g ds' h1 h2 h3
      cases h
      simp only [resV] at hv
      split at hv
      · rename_i v vs' e1 e2
        cases hv
        obtain ⟨us, h4, h5⟩ := resV_sound hR hE r ds' vs' h3 e2
        obtain ⟨u, h6, h7⟩ := load_result hR h1 h2 (hE q) e1
        refine ⟨u :: us, ?_, RL.cons h7 h5⟩
        have h8 : (resM a.tmps (.cell q t)).run P w = .ok u w := h6
        simp only [List.mapM_cons, Sem.run_bind, h8, Sem.run_pure, Result.andThen_ok, h4]
      · cases hv
    · cases h

theorem results_sound {fn : Func} {s : St} {ds : List DRes} {vs : List V} (hR : Rel w0 O I0 I ρ (getO s.objs) used w) (hE : EnvR w I ρ a fun t => s.env.getD t .undef) (h : cRes P fn.results.toList = some ds) (hv : resV s ds = some vs) :
    ∃ u, (results fn a.tmps).run P w = .ok u w ∧ R w I ρ u (one1 vs) := by
  obtain ⟨us, h1, h2⟩ := resV_sound hR hE _ _ _ h hv
  have hrun : (results fn a.tmps).run P w = .ok (if h : us.toArray.size = 1 then us.toArray[0] else .tuple us.toArray) w := by
    rw [results_eq, Array.mapM_eq_mapM_toList]
    simp only [Sem.run_bind, map_eq_pure_bind, h1, Result.andThen_ok, Sem.run_pure]
  refine ⟨_, hrun, ?_⟩
  have hl := h2.length
  cases us with
  | nil =>
    cases vs with
    | nil => exact RL.tup _ _ RL.nil RL.nil
    | cons => simp at hl
  | cons u us =>
    cases vs with
    | nil => simp at hl
    | cons v vs =>
      cases us with
      | nil =>
        cases vs with
        | nil => exact h2
        | cons => simp at hl
      | cons u2 us =>
        cases vs with
        | nil => simp at hl
        | cons v2 vs => simpa [one1] using RL.tup (#[u, u2] ++ us.toArray) (v :: v2 :: vs) (by simpa using h2) RL.nil

theorem packR_sound {os os' : Objs} {k : Nat} {r r' : V} {v : Value} (hR : Rel w0 O I0 I ρ (getO os) used w) (hv : R w I ρ v r) (h : packR os k r = some (r', os')) :
    Once os' ∧ ∃ ρ', R w I ρ' v r' ∧ Rel w0 O I0 I ρ' (getO os') (fun j => j < k ∨ (getO os' j).isSome = true) w ∧ ∀ i, i < k → ρ' i = ρ i := by
  unfold packR at h
  simp only at h
  split at h
  case h_2 => cases h
  rename_i x y hall hren hpk
  cases h
  generalize hns : reach os bfs 0 (hands (List.range k) r) = ns at *
  have hpre : Pre (List.range k) ns := by rw [← hns]; exact (hands_pre _ _).trans (reach_pre _ bfs 0 _)
  have hnod : ns.Nodup := hpre.2 List.nodup_range
  have hN := hR.names hnod hpk
  refine ⟨(packO_once hpk).2, rhoN ρ ns, R.ren hv (rhoN_ok ρ ns) hren, ⟨hN.os, hN.tape, hN.output, hN.size, hN.frame, hN.csz, hN.ilt, hN.isub, fun h p hp => ?_, hN.obj, hN.inj⟩, fun i hi => ?_⟩
  · by_cases hk : h < k
    · exact .inl hk
    · right
      have hlt := hN.dom h p hp
      have hm : ns[h] ∈ ns.drop k := by
        rw [List.mem_iff_getElem?]
        exact ⟨h - k, by rw [List.getElem?_drop, show k + (h - k) = h by omega]; exact List.getElem?_eq_getElem hlt⟩
      obtain ⟨o, ho⟩ := Option.isSome_iff_exists.1 (hasAll_mem hall _ hm)
      have := packO_has hpk h ns[h] o (List.getElem?_eq_getElem hlt) ho
      rwa [Nat.zero_add] at this
  · obtain ⟨⟨t, ht⟩, _⟩ := hpre
    have : ns[i]? = some i := by
      rw [ht, List.getElem?_append_left (by rw [List.length_range]; omega)]
      rw [List.getElem?_range (by omega)]
    simp only [rhoN, this, Option.bind_some]

theorem runF_sound {f : Nat} {fn : Func} {F : DFun} {hint : DCode} (hm : P.follows .mixedOrders = true) (hC : CSnd P gl cs) (hF : CEnt P cs) (hts : EqTypes P eqs) (hfn : P.funcs[f]? = some fn) (hcf : cFun P eqs F.lend hint fn = some F)
    {args : List V} {os os' : Objs} {r : V} (h : runF cs lend gl F args os = some (r, os')) {w : World} {O I : Nat → Prop} {ρ : Rho} {cargs : Array Value}
    (hR : Rel w O I I ρ (getO os) (· < os.length) w) (hargs : RL w I ρ cargs.toList args) (hG : GlR w I gl) :
    Once os' ∧ CallsX P f cargs w fun e w' => ∃ rv I' ρ', e = .returned rv ∧ R w' I' ρ' rv r ∧
      Rel w O I I' ρ' (getO os') (fun j => j < os.length ∨ (getO os' j).isSome = true) w' ∧ (∀ i p, i < os.length → ρ i = some p → ρ' i = some p) := by
  unfold cFun at hcf
  split at hcf
  case h_2 => cases hcf
  rename_i c hb hname
  split at hcf
  case h_2 => cases hcf
  rename_i d rs hd hrs
  have hFe := hcf
  injection hFe with hFe
  have e1 : F.ntmps = fn.ntmps := by rw [← hFe]
  have e2 : F.results = rs := by rw [← hFe]
  have e3 : F.body = d := by rw [← hFe]
  have hlen := hargs.length
  rw [Array.length_toList] at hlen
  -- the end
  have fin : ∀ (ex : Ex) (s : St), exec cs lend gl F.body ⟨args ++ List.replicate (F.ntmps - args.length) (.tup []), os, os.length, os.length⟩ = some (ex, s) →
      ((resV s F.results).bind fun vs => packR s.objs os.length (one1 vs)) = some (r, os') → (ex = .nrm ∨ ex = .ret) →
      Once os' ∧ CallsX P f cargs w fun e w' => ∃ rv I' ρ', e = .returned rv ∧ R w' I' ρ' rv r ∧
      Rel w O I I' ρ' (getO os') (fun j => j < os.length ∨ (getO os' j).isSome = true) w' ∧ (∀ i p, i < os.length → ρ i = some p → ρ' i = some p) := by
    intro ex s hex hres hkind
    obtain ⟨vs, hvs, hpk⟩ := Option.bind_eq_some_iff.1 hres
    have honce : Once os' := by
      unfold packR at hpk
      simp only at hpk
      split at hpk
      · rename_i h3; cases hpk; exact (packO_once h3).2
      · cases hpk
    refine ⟨honce, .inl ⟨⟨fn, hfn, by simp [hb], hname⟩, calls_of_wp hfn hb ?_⟩⟩
    rw [e3] at hex
    have hS : SS gl w O I ρ os.length ⟨args ++ List.replicate (F.ntmps - args.length) (.tup []), os, os.length, os.length⟩ { tmps := cargs ++ Array.replicate (fn.ntmps - cargs.size) Go.undef, defers := [] } w := by
      refine ⟨rfl, _, I, ρ, ⟨hR, fun t => ?_, by simp [hlen, e1], hG, fun i p _ hp => hp, rfl⟩, fun h hh => hh⟩
      show R w I ρ ((cargs ++ Array.replicate (fn.ntmps - cargs.size) Go.undef).getD t Go.undef) ((args ++ List.replicate (F.ntmps - args.length) (V.tup [])).getD t V.undef)
      rw [Array.getD_eq_getD_getElem?, List.getD_eq_getElem?_getD]
      by_cases ht : t < cargs.size
      · rw [Array.getElem?_append_left ht, List.getElem?_append_left (by omega)]
        obtain ⟨u, hu, hr⟩ := hargs.get (List.getElem?_eq_getElem (show t < args.length by omega))
        rw [List.getElem?_eq_getElem (show t < args.length by omega)]
        rw [Array.getElem?_toList] at hu
        rw [hu]
        exact hr
      · rw [Array.getElem?_append_right (by omega), List.getElem?_append_right (by omega)]
        rw [Array.getElem?_replicate, List.getElem?_replicate]
        by_cases h2 : t - cargs.size < fn.ntmps - cargs.size
        · rw [if_pos h2, if_pos (by omega)]
          exact RL.tup #[] [] RL.nil RL.nil
        · rw [if_neg h2, if_neg (by omega)]
          exact RL.undef _ RL.nil
    refine exec_sound hm hC hF hts hint c d hd _ ex s _ w _ hex hS ?_
    intro a' w' hS'
    obtain ⟨hk, used', I', ρ', hs, hu⟩ := hS'
    obtain ⟨u, hu1, hu2⟩ := results_sound (fn := fn) hs.rel hs.envr hrs (by rw [← e2]; exact hvs)
    obtain ⟨_, ρ'', p1, p2, p3⟩ := packR_sound hs.rel hu2 hpk
    have hpost : a'.defers = [] ∧ ∃ v, (results fn a'.tmps).run P w' = .ok v w' ∧ ∃ rv I' ρ', Ending.returned v = .returned rv ∧ R w' I' ρ' rv r ∧
      Rel w O I I' ρ' (getO os') (fun j => j < os.length ∨ (getO os' j).isSome = true) w' ∧ (∀ i p, i < os.length → ρ i = some p → ρ' i = some p) :=
      ⟨hs.dfr, u, hu1, u, I', ρ'', rfl, p1, p2, fun i p hi hp => by rw [p3 i hi]; exact hs.keep i p hi hp⟩
    rcases hkind with rfl | rfl
    · exact hpost
    · exact hpost
  unfold runF at h
  split at h
  · rename_i s hex; exact fin .nrm s hex h (.inl rfl)
  · rename_i s hex; exact fin .ret s hex h (.inr rfl)
  · cases h

/-- The program's functions are what they are taken for. -/
structure Good (P : Program) (eqs : List TypeId) (D : DProg) : Prop where
  cmp : EqTypes P eqs
  mixed : P.follows .mixedOrders = true
  fn : ∀ f F, D.fn f = some F → ∃ fn hint, P.funcs[f]? = some fn ∧ cFun P eqs F.lend hint fn = some F
  prim : ∀ f p, D.fn f = none → D.prim f = some p → CSnd P D.gl (fun f' args os => if f' = f then p args os else none)

theorem callN_sound {D : DProg} (hD : Good P eqs D) : ∀ n, CSnd P D.gl (callN D n) ∧ CEnt P (callN D n)
  | 0 => ⟨fun f args os r os' h => by simp [callN] at h, trivial⟩
  | n + 1 => by
    obtain ⟨ih1, ih2⟩ := callN_sound hD n
    refine ⟨fun f args os r os' h w O I ρ cargs hR hargs hG hO => ?_, trivial⟩
    · simp only [callN] at h
      split at h
      · rename_i F hF
        obtain ⟨fn, hint, h1, h2⟩ := hD.fn f F hF
        exact runF_sound hD.mixed ih1 ih2 hD.cmp h1 h2 h hR hargs hG
      · rename_i hF
        split at h
        · rename_i p hp
          exact hD.prim f p hF hp f args os r os' (by simpa using h) w O I ρ cargs hR hargs hG hO
        · cases h
end
end Go.Dm
set_option linter.unusedSimpArgs false
set_option linter.unusedVariables false
set_option linter.unusedSectionVars false
namespace Go.Dm

/-- One answers whatever the other one answers. -/
def LeC (a b : CallSem) : Prop := ∀ f args os r, a f args os = some r → b f args os = some r

section
variable {c1 c2 : CallSem} {lend : Nat → List Bool} {gl : Nat → Option (List V)}

theorem doCall_le (h : LeC c1 c2) {os : Objs} {nm stride f : Nat} {vs : List V} {e : Eff} (he : doCall c1 lend os nm stride f vs = some e) : doCall c2 lend os nm stride f vs = some e := by
  unfold doCall at he ⊢
  split at he
  · cases he
  · rename_i vs1 ks h1
    split at he
    · cases he
    · rename_i ns vs2 os1 h2
      try simp only [h1, h2]
      split at he
      · cases he
      · rename_i h3
        try simp only [h3]
        split at he
        · cases he
        · rename_i r os2 h4
          try simp only [h _ _ _ _ h4]
          exact he

theorem stepC_le (h : LeC c1 c2) {ev : X → V} {os : Objs} {nm stride : Nat} {o : COp} {e : Eff} (he : stepC c1 lend gl ev os nm stride o = some e) : stepC c2 lend gl ev os nm stride o = some e := by
  cases o with
  | op d => exact he
  | call f xs => exact doCall_le h he
  | callv x xs =>
    simp only [stepC] at he ⊢
    split at he
    · exact doCall_le h he
    · cases he
  | inv tab x xs =>
    simp only [stepC] at he ⊢
    split at he
    · split at he
      · exact doCall_le h he
      · cases he
    · cases he

theorem runSeq_le (h : LeC c1 c2) {base n : Nat} : ∀ (l : List DO) (j : Nat) (env : List V) (os : Objs) (nx : Nat) (r : List V × Objs × Nat),
    runSeq c1 lend gl base n j l env os nx = some r → runSeq c2 lend gl base n j l env os nx = some r
  | [], j, env, os, nx, r, hr => hr
  | o :: l, j, env, os, nx, r, hr => by
    simp only [runSeq] at hr ⊢
    split at hr
    · rename_i h1
      split at hr
      · rename_i e h2
        try simp only [stepC_le h h2]
        exact runSeq_le h l _ _ _ _ _ hr
      · cases hr
    · exact runSeq_le h l _ _ _ _ _ hr
    · cases hr

theorem runDrw_le (h : LeC c1 c2) {base n : Nat} {os0 : Objs} : ∀ (l : List DO) (j : Nat) (env : List V) (os : Objs) (nx : Nat) (es : List Eff) (r : List V × Objs × Nat),
    runDrw c1 lend gl base n os0 j l env os nx es = some r → runDrw c2 lend gl base n os0 j l env os nx es = some r
  | [], j, env, os, nx, es, r, hr => hr
  | o :: l, j, env, os, nx, es, r, hr => by
    simp only [runDrw] at hr ⊢
    split at hr
    · rename_i h1
      split at hr
      · rename_i e h2
        try simp only [stepC_le h h2]
        split at hr
        · cases hr
        · rename_i h3
          rw [if_neg h3]
          exact runDrw_le h l _ _ _ _ _ _ hr
      · cases hr
    · exact runDrw_le h l _ _ _ _ _ _ hr
    · cases hr

theorem loopN_le {f g : St → Option (Ex × St)} {k : St → Option St} (h : ∀ s r, f s = some r → g s = some r) : ∀ (n : Nat) (s : St) (r : Ex × St), loopN f k n s = some r → loopN g k n s = some r
  | 0, s, r, hr => by cases hr
  | n + 1, s, r, hr => by
    simp only [loopN] at hr ⊢
    split at hr
    · cases hr
    · rename_i s' h1
      cases hf : f s' with
      | none => rw [hf] at hr; cases hr
      | some p =>
        rw [hf] at hr
        rw [h _ _ hf]
        obtain ⟨ex, s2⟩ := p
        cases ex with
        | nrm => exact loopN_le h n s2 r hr
        | exit id => exact hr
        | ret => exact hr

theorem exec_le (h : LeC c1 c2) : ∀ (c : DCode) (s : St) (r : Ex × St), exec c1 lend gl c s = some r → exec c2 lend gl c s = some r
  | .skip, s, r, hr => hr
  | .seqr ops, s, r, hr => by
    simp only [exec] at hr ⊢
    obtain ⟨p, h1, h2⟩ := Option.map_eq_some_iff.1 hr
    exact Option.map_eq_some_iff.2 ⟨p, runSeq_le h _ _ _ _ _ _ h1, h2⟩
  | .drwr ops, s, r, hr => by
    simp only [exec] at hr ⊢
    obtain ⟨p, h1, h2⟩ := Option.map_eq_some_iff.1 hr
    exact Option.map_eq_some_iff.2 ⟨p, runDrw_le h _ _ _ _ _ _ _ h1, h2⟩
  | .seq a b, s, r, hr => by
    simp only [exec] at hr ⊢
    cases ha : exec c1 lend gl a s with
    | none => rw [ha] at hr; cases hr
    | some p =>
      rw [ha] at hr
      rw [exec_le h a s p ha]
      obtain ⟨ex, s2⟩ := p
      cases ex with
      | nrm => exact exec_le h b s2 r hr
      | exit id => exact hr
      | ret => exact hr
  | .cond x a b, s, r, hr => by
    simp only [exec] at hr ⊢
    split at hr
    · exact exec_le h a s r hr
    · exact exec_le h b s r hr
    · cases hr
  | .block id c, s, r, hr => by
    simp only [exec] at hr ⊢
    cases ha : exec c1 lend gl c s with
    | none => rw [ha] at hr; cases hr
    | some p =>
      rw [ha] at hr
      rw [exec_le h c s p ha]
      exact hr
  | .loop live c, s, r, hr => by
    simp only [exec] at hr ⊢
    exact loopN_le (fun s r h1 => exec_le h c s r h1) _ _ _ hr
  | .exit id, s, r, hr => hr
  | .ret, s, r, hr => hr
  | .frz ts c, s, r, hr => by
    simp only [exec] at hr ⊢
    exact exec_le h c _ r hr

theorem runF_le (h : LeC c1 c2) {F : DFun} {args : List V} {os : Objs} {r : V × Objs} (hr : runF c1 lend gl F args os = some r) : runF c2 lend gl F args os = some r := by
  unfold runF at hr ⊢
  split at hr
  · rename_i s h1; simp only [exec_le h _ _ _ h1]; exact hr
  · rename_i s h1; simp only [exec_le h _ _ _ h1]; exact hr
  · cases hr
end

theorem callN_le1 (D : DProg) : ∀ n, LeC (callN D n) (callN D (n + 1))
  | 0 => fun f args os r h => by cases h
  | n + 1 => fun f args os r h => by
    simp only [callN] at h ⊢
    cases hf : D.fn f with
    | some F =>
      simp only [hf] at h ⊢
      exact runF_le (callN_le1 D n) h
    | none =>
      simp only [hf] at h ⊢
      exact h

theorem callN_le (D : DProg) {n m : Nat} (h : n ≤ m) : LeC (callN D n) (callN D m) := by
  induction m with
  | zero => cases Nat.le_zero.1 h; exact fun _ _ _ _ h => h
  | succ m ih =>
    by_cases hm : n = m + 1
    · subst hm; exact fun _ _ _ _ h => h
    · exact fun f a o r hr => callN_le1 D m f a o r (ih (by omega) f a o r hr)

/-- The same, but what H names is asked of H. -/
def callH (H : Nat → Option (List V → Objs → Option (V × Objs))) (D : DProg) : Nat → CallSem
  | 0 => fun _ _ _ => none
  | n + 1 => fun f args os => match H f with
    | some p => p args os
    | none => match D.fn f with
      | some F => runF (callH H D n) D.lend D.gl F args os
      | none => match D.prim f with
        | some p => p args os
        | none => none

/-- What H says holds of the program, at depth K. -/
def HotOk (H : Nat → Option (List V → Objs → Option (V × Objs))) (D : DProg) (K : Nat) : Prop :=
  ∀ f p, H f = some p → ∀ args os r, p args os = some r → callN D K f args os = some r

theorem callH_le {H : Nat → Option (List V → Objs → Option (V × Objs))} {D : DProg} {K : Nat} (hH : HotOk H D K) : ∀ n, LeC (callH H D n) (callN D (n + K))
  | 0 => fun f args os r h => by cases h
  | n + 1 => fun f args os r h => by
    simp only [callH] at h
    cases hp : H f with
    | some p =>
      simp only [hp] at h
      exact callN_le D (by omega) f args os r (hH f p hp args os r h)
    | none =>
      simp only [hp] at h
      rw [show n + 1 + K = (n + K) + 1 by omega]
      simp only [callN]
      cases hf : D.fn f with
      | some F =>
        simp only [hf] at h ⊢
        exact runF_le (callH_le hH n) h
      | none =>
        simp only [hf] at h ⊢
        exact h
end Go.Dm
