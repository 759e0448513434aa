/- That the replay cache's See is what seeRun says. -/
import Derived.Test.YtllfbfkjbhpfeaaGreatDoorDb
import Derived.Test.YtllfbfkjbhpfeaaGreatDoorChecked
import Derived.Maps.RangeRun
import Derived.Test.YtllfbfkjbhpfeaaGreatDoorTb
import Derived.Test.YtllfbfkjbhpfeaaGreatDoorDc
set_option linter.unusedSimpArgs false
set_option linter.unusedVariables false
set_option linter.unusedSectionVars false
set_option linter.unusedSimpArgs false
set_option linter.unusedVariables false
namespace Go.Dm.See
open Go Go.Dm Go.Proofs
open Go.ChangeMaps (setBlock)

theorem ops_cons {P : Program} {ops : Array Oper} {Q : Exit → Act → World → Prop} {i : Nat} {rest : List Nat} {a : Act} {w w' : World} {o : Oper} {v : Value} (ho : ops[i]? = some o) (hg : o.guard = none)
    (h : (execOp a.eval o).run P w = .ok (.value v) w') (k : wpOps P ops Q rest (a.put o.dst v) w') : wpOps P ops Q (i :: rest) a w := by
  simp only [wpOps, ho, Region.wanted, hg, if_true]
  left
  unfold Oper.wp
  rw [h, Oper.upon_value]
  exact k

def codeL : Code → Code
  | .seq a _ => a
  | c => c
def codeR : Code → Code
  | .seq _ b => b
  | c => c
def codeB : Code → Code
  | .block _ b => b
  | .loop b => b
  | c => c
def regO : Code → Array Oper
  | .region _ ops _ => ops
  | _ => #[]
def condT : Code → Code
  | .cond _ a _ => a
  | c => c
noncomputable def body : Code := Tryz.f90.body.getD .skip
noncomputable def chunk : Code := codeL (codeR (codeR body))
noncomputable def o7 : Array Oper := regO (codeL chunk)
noncomputable def lp : Code := codeB (codeB (codeR chunk))
noncomputable def o8 : Array Oper := regO (codeL lp)
noncomputable def o9 : Array Oper := regO (codeL (codeB (codeR (codeR lp))))
noncomputable def o10 : Array Oper := regO (codeL (codeR (codeB (codeR (codeR lp)))))
noncomputable def o11 : Array Oper := regO (condT (codeR (codeR (codeB (codeR (codeR lp))))))
theorem chunk_eq : chunk = .seq (.region 7 o7 false) (.block 1 (.loop lp)) := by kernel_rfl
theorem lp_eq : lp = .seq (.region 8 o8 false) (.seq (.cond (.tmp 32) .skip (.exit 1)) (.block 2 (.seq (.region 9 o9 false) (.seq (.region 10 o10 false) (.cond (.tmp 43) (.region 11 o11 false) .skip))))) := by kernel_rfl
theorem body_eq : body = .seq (codeL body) (.seq (codeL (codeR body)) (.seq chunk (codeR (codeR (codeR body))))) := by kernel_rfl

/-! The operations of the chunk. -/
def opAt (ops : Array Oper) (i : Nat) : Option (Op × Option Tmp × Option (Nat × Bool)) := (ops[i]?).map fun o => (o.op, o.dst, o.guard)
theorem ops_step {P : Program} {ops : Array Oper} {Q : Exit → Act → World → Prop} {i : Nat} {rest : List Nat} {a : Act} {w w' : World} {op : Op} {dst : Option Tmp} {v : Value} (ho : opAt ops i = some (op, dst, none))
    (h : ∀ o : Oper, o.op = op → (execOp a.eval o).run P w = .ok (.value v) w') (k : wpOps P ops Q rest (a.put dst v) w') : wpOps P ops Q (i :: rest) a w := by
  unfold opAt at ho
  obtain ⟨o, h1, h2⟩ := Option.map_eq_some_iff.1 ho
  simp only [Prod.mk.injEq] at h2
  obtain ⟨e1, e2, e3⟩ := h2
  refine ops_cons h1 e3 (h o e1) ?_
  rw [e2]; exact k

/-- The slots that the chunk writes. -/
def own (t : Nat) : Prop := t = 10 ∨ t = 11 ∨ (26 ≤ t ∧ t ≤ 48)
/-- An act that differs from another one in those slots alone. -/
structure Like (a0 a : Act) : Prop where
  size : a.tmps.size = a0.tmps.size
  dfr : a.defers = a0.defers
  rest : ∀ t, ¬ own t → a.tmps.getD t Go.undef = a0.tmps.getD t Go.undef
theorem Like.refl (a : Act) : Like a a := ⟨rfl, rfl, fun _ _ => rfl⟩
theorem Like.put {a0 a : Act} (h : Like a0 a) {d : Nat} (v : Value) (hd : own d) (hs : a0.tmps.size = 70) : Like a0 (a.put (some d) v) := by
  have hd70 : d < a.tmps.size := by rw [h.size, hs]; rcases hd with rfl | rfl | h <;> omega
  refine ⟨by simp only [Act.put, Array.size_setIfInBounds]; exact h.size, h.dfr, fun t ht => ?_⟩
  rw [put_getD a d v t hd70, if_neg (fun e : t = d => ht (by rw [e]; exact hd))]
  exact h.rest t ht
theorem Like.at {a0 a : Act} (h : Like a0 a) {d : Nat} (v : Value) (hs : a0.tmps.size = 70) (hd : d < 70) (t : Nat) : (a.put (some d) v).tmps.getD t Go.undef = if t = d then v else a.tmps.getD t Go.undef :=
  put_getD a d v t (by rw [h.size, hs]; exact hd)

/-! Single runs. -/
section
variable {w : World} {a : Act} {o : Oper}
theorem r_mov {x : Nat} {v : Value} (h : a.tmps.getD x Go.undef = v) (ho : o.op = .move (.tmp x)) : (execOp a.eval o).run Tryz.prog w = .ok (.value v) w := by
  subst h; simp [execOp, ho, Act.eval]
theorem r_asg {x : Nat} {v : Value} (h : a.tmps.getD x Go.undef = v) (ho : o.op = .assign (.tmp x)) : (execOp a.eval o).run Tryz.prog w = .ok (.value v) w := by
  subst h; simp [execOp, ho, Act.eval]
theorem r_nil {x : Nat} {q : Addr} (h : a.tmps.getD x Go.undef = .pointer (some q)) (ho : o.op = .nilCheck (.tmp x)) : (execOp a.eval o).run Tryz.prog w = .ok (.value (.pointer (some q))) w := by
  simp only [execOp, ho, Act.eval, h]; rfl
theorem r_fld {x b f off : Nat} (h : a.tmps.getD x Go.undef = .pointer (some ⟨b, 0, none⟩)) (ho : o.op = .fieldAddr 153 (.tmp x) f) (hf : f < 3) : (execOp a.eval o).run Tryz.prog w = .ok (.value (.pointer (some ⟨b, f, none⟩))) w := by
  have : f = 0 ∨ f = 1 ∨ f = 2 := by omega
  rcases this with rfl | rfl | rfl <;> simp [execOp, ho, Act.eval, h, Instr.fieldAt, Instr.sureAddr, fieldPlace, Addr.add, Result.andThen]
end

section
variable {w : World} {a : Act} {o : Oper}
theorem r_lmap {x b off b1 : Nat} (h : a.tmps.getD x Go.undef = .pointer (some ⟨b, off, none⟩)) (ho : o.op = .load 151 (.tmp x)) (hc : w.cell? ⟨b, off, none⟩ = some (.map (some b1))) : (execOp a.eval o).run Tryz.prog w = .ok (.value (.map (some b1))) w := by
  simp [execOp, ho, Act.eval, h, Instr.loadAt, Instr.sureAddr, loadVar, isAgg, underlying, hc, Result.andThen]
theorem r_lint {x b off : Nat} {n : Int} (h : a.tmps.getD x Go.undef = .pointer (some ⟨b, off, none⟩)) (ho : o.op = .load 3 (.tmp x)) (hc : w.cell? ⟨b, off, none⟩ = some (.int .i64 n)) : (execOp a.eval o).run Tryz.prog w = .ok (.value (.int .i64 n)) w := by
  simp [execOp, ho, Act.eval, h, Instr.loadAt, Instr.sureAddr, loadVar, isAgg, underlying, hc, Result.andThen]
theorem r_sub {p q : Nat} {x y : Int} (h : a.tmps.getD p Go.undef = .int .i64 x) (h' : a.tmps.getD q Go.undef = .int .i64 y) (ho : o.op = .binOp .sub 3 (.tmp p) (.tmp q) 3) : (execOp a.eval o).run Tryz.prog w = .ok (.value (.int .i64 (IntKind.i64.wrap (x - y)))) w := by
  simp [execOp, ho, Act.eval, h, h', eqGuard, binOp, Op.intArith, Result.andThen]
theorem r_lss {p q : Nat} {x y : Int} (h : a.tmps.getD p Go.undef = .int .i64 x) (h' : a.tmps.getD q Go.undef = .int .i64 y) (ho : o.op = .binOp .lss 3 (.tmp p) (.tmp q) 3) : (execOp a.eval o).run Tryz.prog w = .ok (.value (.bool (decide (x < y)))) w := by
  simp [execOp, ho, Act.eval, h, h', eqGuard, binOp, Op.intCmp, Result.andThen]
theorem r_range {x b1 clock : Nat} {en : Array MapEntry} (h : a.tmps.getD x Go.undef = .map (some b1)) (ho : o.op = .range 151 (.tmp x)) (hm : w.heap[b1]? = some (.map en clock)) :
    (execOp a.eval o).run Tryz.prog w = .ok (.value (.pointer (some ⟨w.heap.size, 0, none⟩))) (w.alloc (.mapIter (some b1) clock #[] clock)) := by
  simp [execOp, ho, Act.eval, h, run_range_map w 151 9 3 b1 en clock Tryz.underlying151 hm, Result.andThen]
theorem r_ext {x i : Nat} {vs : Array Value} {v : Value} (h : a.tmps.getD x Go.undef = .tuple vs) (ho : o.op = .extract (.tmp x) i) (hv : vs[i]? = some v) : (execOp a.eval o).run Tryz.prog w = .ok (.value v) w := by
  simp [execOp, ho, Act.eval, h, Instr.extract, hv, Result.andThen]
theorem r_next {x : Nat} {q v : Value} {w' : World} (h : a.tmps.getD x Go.undef = q) (ho : o.op = .next (.tmp x) false) (hr : (Instr.next q false 0).run Tryz.prog w = .ok v w') : (execOp a.eval o).run Tryz.prog w = .ok (.value v) w' := by
  subst h
  have e : (execOp a.eval o).run Tryz.prog w = ((Instr.next (a.tmps.getD x Go.undef) false 0).run Tryz.prog w).andThen fun v w' => .ok (.value v) w' := by simp only [execOp, ho, Act.eval, Sem.run_bind, Sem.run_pure]; rfl
  rw [e, hr]; rfl
theorem r_entry {x : Nat} {q v : Value} (h : a.tmps.getD x Go.undef = q) (ho : o.op = .entry (.tmp x)) (hr : (Instr.entry q).run Tryz.prog w = .ok v w) : (execOp a.eval o).run Tryz.prog w = .ok (.value v) w := by
  subst h
  have e : (execOp a.eval o).run Tryz.prog w = ((Instr.entry (a.tmps.getD x Go.undef)).run Tryz.prog w).andThen fun v w' => .ok (.value v) w' := by simp only [execOp, ho, Act.eval, Sem.run_bind, Sem.run_pure]
  rw [e, hr]; rfl
theorem r_del {p q b1 clock i : Nat} {k : ByteArray} {en : Array MapEntry} {y : Value} (h : a.tmps.getD p Go.undef = .map (some b1)) (h' : a.tmps.getD q Go.undef = .string k)
    (ho : o.op = .call { callee := .builtin .delete, args := #[.tmp p, .tmp q], argTypes := #[151, 9] }) (hm : w.heap[b1]? = some (.map en clock)) (hf : Instr.findNow .string (.string k) en.toList 0 = some (some (i, y))) :
    (execOp a.eval o).run Tryz.prog w = .ok (.value (.tuple #[])) (setBlock w b1 (.map (en.eraseIdxIfInBounds i) clock)) := by
  have hk : ∀ e, (Instr.checkKey e 10000 9 (.string k)).run Tryz.prog w = .ok () w := fun e => run_checkKey' (kd := 2) (by simp [kindT, Tryz.underlying9]) e 9999 _
  have hfk : (Instr.findKey 9 (.string k) en.toList).run Tryz.prog w = .ok (some (i, y)) w := by
    simp [Instr.findKey, run_underlying Tryz.underlying9, Result.andThen, hf]
  have hd : ∀ ty, (Builtin.delete_ #[151, 9] ty #[.map (some b1), .string k]).run Tryz.prog w = .ok (.tuple #[]) (setBlock w b1 (.map (en.eraseIdxIfInBounds i) clock)) := fun ty => by
    simp [Builtin.delete_, run_underlying Tryz.underlying151, MapKept.run_getObj_map hm, hk, hfk, MapKept.run_setObj_map _ hm, Result.andThen, setBlock]
  have e : (execOp a.eval o).run Tryz.prog w = ((Builtin.delete_ #[151, 9] o.type #[.map (some b1), .string k]).run Tryz.prog w).andThen fun v w' => .ok (.value v) w' := by
    simp [execOp, ho, Act.eval, h, h', resolve, invoke, Deferred.ofValue, builtin, Result.andThen]
  rw [e, hd]; rfl
end

/-! Lists of entries. -/
theorem findNow_at : ∀ (l : List MapEntry) (e : MapEntry) (i : Nat), e ∈ l → (∀ x ∈ l, ∃ k : List UInt8, x.key = .string ⟨k.toArray⟩) → (l.map (·.key)).Nodup →
    ∃ j, Instr.findNow .string e.key l i = some (some (i + j, e.val)) ∧ l[j]? = some e
  | [], e, i, he, _, _ => by cases he
  | x :: l, e, i, he, hk, hn => by
    obtain ⟨k, hx⟩ := hk x (by simp)
    obtain ⟨k', hx'⟩ := hk e he
    simp only [List.map_cons, List.nodup_cons] at hn
    have hs : Instr.sameNow .string e.key x.key = some (k' == k) := by
      rw [hx, hx']
      simp only [Instr.sameNow, bytes_eq']
    rcases List.mem_cons.1 he with rfl | he
    · refine ⟨0, ?_, rfl⟩
      have e1 : Instr.sameNow .string e.key e.key = some true := by rw [hx]; simp only [Instr.sameNow, bytes_eq', beq_self_eq_true]
      simp only [Instr.findNow, e1, Nat.add_zero]
    · have hne : (k' == k) = false := by
        apply beq_false_of_ne
        rintro rfl
        exact hn.1 (List.mem_map.2 ⟨e, he, by rw [hx, hx']⟩)
      obtain ⟨j, h1, h2⟩ := findNow_at l e (i + 1) he (fun y hy => hk y (by simp [hy])) hn.2
      refine ⟨j + 1, ?_, by simpa using h2⟩
      simp only [Instr.findNow, hs, hne, h1]
      congr 3
      omega
theorem erase_filter : ∀ (l : List MapEntry) (e : MapEntry) (j : Nat), l[j]? = some e → (l.map (·.born)).Nodup → l.eraseIdx j = l.filter fun x => x.born != e.born
  | [], e, j, h, _ => by simp at h
  | x :: l, e, 0, h, hn => by
    simp only [List.getElem?_cons_zero, Option.some.injEq] at h
    subst h
    simp only [List.map_cons, List.nodup_cons] at hn
    simp only [List.eraseIdx_zero, List.tail_cons, List.filter_cons, bne_self_eq_false, Bool.false_eq_true, if_false]
    rw [List.filter_eq_self.2]
    intro y hy
    rw [bne_iff_ne]
    intro e1
    exact hn.1 (e1 ▸ List.mem_map.2 ⟨y, hy, rfl⟩)
  | x :: l, e, j + 1, h, hn => by
    simp only [List.getElem?_cons_succ] at h
    simp only [List.map_cons, List.nodup_cons] at hn
    have hne : x.born ≠ e.born := fun e1 => hn.1 (e1 ▸ List.mem_map.2 ⟨e, List.mem_of_getElem? h, rfl⟩)
    simp only [List.eraseIdx_cons_succ, List.filter_cons]
    rw [if_pos (by simpa using hne), erase_filter l e j h hn.2]

/-! The loop. -/
def kp (limit : Int) (e : MapEntry) : Bool := match e.val with
  | .int _ n => !decide (n < limit)
  | _ => true
structure J (w : World) (a0 : Act) (b0 b1 : Nat) (en : Array MapEntry) (clock : Nat) (limit : Int) (a : Act) (W : World) (en' : Array MapEntry) (seen : Array Nat) : Prop where
  like : Like a0 a
  it : a.tmps.getD 30 Go.undef = .pointer (some ⟨w.heap.size, 0, none⟩)
  size : W.heap.size = w.heap.size + 1
  frame : ∀ b, b < w.heap.size → b ≠ b1 → W.heap[b]? = w.heap[b]?
  mp : W.heap[b1]? = some (.map en' clock)
  iter : W.heap[w.heap.size]? = some (.mapIter (some b1) clock seen clock)
  os : W.os = w.os
  tape : W.tape = w.tape
  output : W.output = w.output
  ent : en'.toList = en.toList.filter fun e => !seen.contains e.born || kp limit e

def mu (b1 r : Nat) (W : World) : Nat := match W.heap[b1]?, W.heap[r]? with
  | some (.map en' _), some (.mapIter _ _ seen _) => (leftOf en' seen).size
  | _, _ => 0
theorem J.mu {w : World} {a0 : Act} {b0 b1 : Nat} {en : Array MapEntry} {clock : Nat} {limit : Int} {a : Act} {W : World} {en' : Array MapEntry} {seen : Array Nat} (h : J w a0 b0 b1 en clock limit a W en' seen) : mu b1 w.heap.size W = (leftOf en' seen).size := by
  simp only [See.mu, h.mp, h.iter]
theorem ent_step {en : List MapEntry} {seen : Array Nat} {limit : Int} {e : MapEntry} (hn : (en.map (·.born)).Nodup) (he : e ∈ en) (hk : kp limit e = true) :
    (en.filter fun x => !seen.contains x.born || kp limit x) = en.filter fun x => !(seen.push e.born).contains x.born || kp limit x := by
  refine List.filter_congr fun x hx => ?_
  rw [contains_push]
  by_cases hb : x.born = e.born
  · rw [born_inj hn hx he hb, hk]; simp
  · have hb' : (x.born == e.born) = false := beq_false_of_ne hb
    simp [hb', bne]
theorem ent_drop {en : List MapEntry} {seen : Array Nat} {limit : Int} {e : MapEntry} (hn : (en.map (·.born)).Nodup) (he : e ∈ en) (hk : kp limit e = false) :
    ((en.filter fun x => !seen.contains x.born || kp limit x).filter fun x => x.born != e.born) = en.filter fun x => !(seen.push e.born).contains x.born || kp limit x := by
  rw [List.filter_filter]
  refine List.filter_congr fun x hx => ?_
  rw [contains_push]
  by_cases hb : x.born = e.born
  · rw [born_inj hn hx he hb, hk]; simp
  · have hb' : (x.born == e.born) = false := beq_false_of_ne hb
    simp [hb', bne]

theorem e8 : List.range o8.size = [0, 1] := by kernel_rfl
theorem e9 : List.range o9.size = [0, 1, 2, 3, 4] := by kernel_rfl
theorem e10 : List.range o10.size = [0, 1, 2, 3, 4, 5, 6, 7] := by kernel_rfl
theorem e11 : List.range o11.size = [0, 1, 2, 3, 4, 5] := by kernel_rfl
theorem e7 : List.range o7.size = [0, 1, 2, 3, 4] := by kernel_rfl
theorem ownT (d : Nat) (h : (d == 10 || d == 11 || (26 ≤ d && d ≤ 48)) = true) : own d := by
  simp only [Bool.or_eq_true, Bool.and_eq_true, beq_iff_eq, decide_eq_true_eq] at h
  unfold own
  omega

section
variable {w : World} {a0 : Act} {b0 b1 : Nat} {en : Array MapEntry} {clock : Nat} {room window now : Int} {e0 : TypeId} {fr : Nat × Nat}
set_option maxHeartbeats 4000000 in
theorem loop_round (hs : a0.tmps.size = 70) (h0 : a0.tmps.getD 0 Go.undef = .pointer (some ⟨b0, 0, none⟩)) (h3 : a0.tmps.getD 3 Go.undef = .int .i64 now)
    (hb0 : w.heap[b0]? = some (.cells #[.int .i64 room, .int .i64 window, .map (some b1)] e0 fr)) (hb1 : w.heap[b1]? = some (.map en clock))
    (hk : ∀ e ∈ en.toList, ∃ (k : List UInt8) (n : Int), e.key = .string ⟨k.toArray⟩ ∧ e.val = .int .i64 n) (hkn : (en.toList.map (·.key)).Nodup) (hbn : (en.toList.map (·.born)).Nodup) (hcl : ∀ e ∈ en.toList, e.born < clock)
    {Q : Exit → Act → World → Prop} {a : Act} {W : World} {en' : Array MapEntry} {seen : Array Nat}
    (hJ : J w a0 b0 b1 en clock (IntKind.i64.wrap (now - window)) a W en' seen)
    (hQ : ∀ a' W', Like a0 a' → W'.heap.size = w.heap.size + 1 → (∀ b, b < w.heap.size → b ≠ b1 → W'.heap[b]? = w.heap[b]?) → W'.os = w.os → W'.tape = w.tape → W'.output = w.output →
      (∃ en'' : Array MapEntry, W'.heap[b1]? = some (.map en'' clock) ∧ en''.toList = en.toList.filter (kp (IntKind.i64.wrap (now - window)))) → Q (.exit 1) a' W') :
    lp.wp Tryz.prog (Exit.then (fun a' W' => (∃ en'' seen', J w a0 b0 b1 en clock (IntKind.i64.wrap (now - window)) a' W' en'' seen') ∧ mu b1 w.heap.size W' < mu b1 w.heap.size W) Q) a W := by
  have hne : b0 ≠ b1 := by rintro rfl; rw [hb0] at hb1; cases hb1
  have hlt0 : b0 < w.heap.size := (Array.getElem?_eq_some_iff.1 hb0).1
  have hlt1 : b1 < w.heap.size := (Array.getElem?_eq_some_iff.1 hb1).1
  have hsub : ∀ x ∈ en'.toList, x ∈ en.toList := fun x hx => by rw [hJ.ent] at hx; exact (List.mem_filter.1 hx).1
  rw [lp_eq]
  have L := hJ.like
  rcases run_next_at (P := Tryz.prog) W 0 w.heap.size b1 clock clock seen en' clock hJ.iter hJ.mp (fun x hx => hcl x (hsub x hx)) (Nat.le_refl _) with ⟨hz, hrun⟩ | ⟨e, he, W1, hal, hrun⟩
  · have L1 := L.put (d := 31) (.tuple #[.bool false]) (ownT 31 rfl) hs
    refine wp_seq (wp_region ?_)
    rw [e8]
    refine ops_step (op := .next (.tmp 30) false) (dst := some 31) (by kernel_rfl) (fun o ho => r_next hJ.it ho hrun) ?_
    refine ops_step (op := .extract (.tmp 31) 0) (dst := some 32) (by kernel_rfl) (fun o ho => r_ext (vs := #[.bool false]) (v := .bool false) (by rw [L.at _ hs (by omega)]; rfl) ho rfl) ?_
    have L2 := L1.put (d := 32) (.bool false) (ownT 32 rfl) hs
    refine wp_seq (wp_cond_false (by show Array.getD _ 32 _ = _; rw [L1.at _ hs (by omega)]; rfl) (wp_exit ?_))
    refine hQ _ W L2 hJ.size hJ.frame hJ.os hJ.tape hJ.output ⟨en', hJ.mp, ?_⟩
    rw [hJ.ent]
    refine List.filter_congr fun x hx => ?_
    cases hc : seen.contains x.born with
    | true => rfl
    | false =>
      exfalso
      have : x ∈ en'.toList := by rw [hJ.ent]; exact List.mem_filter.2 ⟨hx, by rw [hc]; rfl⟩
      have := all_seen en' seen hz x this
      rw [hc] at this
      cases this
  · obtain ⟨hem, hes⟩ := mem_left he
    have hee : e ∈ en.toList := hsub e hem
    obtain ⟨k, n, hkey, hval⟩ := hk e hee
    rw [hkey, hval] at hrun
    -- the world behind the step
    have hW1 : W1.heap = W.heap ∧ W1.os = W.os ∧ W1.tape = W.tape ∧ W1.output = W.output := by rcases hal with rfl | rfl <;> exact ⟨rfl, rfl, rfl, rfl⟩
    have hit1 : W1.heap[w.heap.size]? = some (.mapIter (some b1) clock seen clock) := by rw [hW1.1]; exact hJ.iter
    generalize hW2 : setBlock W1 w.heap.size (.mapIter (some b1) clock (seen.push e.born) clock) = W2 at hrun
    have p1 : W2.heap[w.heap.size]? = some (.mapIter (some b1) clock (seen.push e.born) clock) := by rw [← hW2]; exact put_get (w := W1) (by rw [hW1.1, hJ.size]; omega)
    have p2 : ∀ b, b ≠ w.heap.size → W2.heap[b]? = W.heap[b]? := fun b hb => by rw [← hW2, ← hW1.1]; exact put_other hb
    have p3 : W2.heap.size = w.heap.size + 1 := by rw [← hW2]; simp only [setBlock, Array.size_setIfInBounds, hW1.1, hJ.size]
    have p4 : W2.os = w.os ∧ W2.tape = w.tape ∧ W2.output = w.output := by
      rw [← hW2]; exact ⟨hW1.2.1.trans hJ.os, hW1.2.2.1.trans hJ.tape, hW1.2.2.2.trans hJ.output⟩
    have p5 : W2.heap[b1]? = some (.map en' clock) := by rw [p2 b1 (by omega)]; exact hJ.mp
    have p6 : W2.heap[b0]? = some (.cells #[.int .i64 room, .int .i64 window, .map (some b1)] e0 fr) := by rw [p2 b0 (by omega), hJ.frame b0 hlt0 hne]; exact hb0
    have c1 : W2.cell? ⟨b0, 1, none⟩ = some (.int .i64 window) := by simp [World.cell?, p6]
    have c2 : W2.cell? ⟨b0, 2, none⟩ = some (.map (some b1)) := by simp [World.cell?, p6]
    have hbn' : (en'.toList.map (·.born)).Nodup := by rw [hJ.ent]; exact hbn.sublist (List.filter_sublist.map _)
    have hkn' : (en'.toList.map (·.key)).Nodup := by rw [hJ.ent]; exact hkn.sublist (List.filter_sublist.map _)
    have hent := run_entry_at (P := Tryz.prog) W2 w.heap.size b1 clock seen en' clock e p1 p5 hem hbn'
    rw [hkey, hval] at hent
    have hmu : (leftOf en' (seen.push e.born)).size < mu b1 w.heap.size W := by rw [hJ.mu]; exact left_shrinks en' seen e he
    refine wp_seq (wp_region ?_)
    rw [e8]
    refine ops_step (op := .next (.tmp 30) false) (dst := some 31) (by kernel_rfl) (fun o ho => r_next hJ.it ho hrun) ?_
    have L1 := L.put (d := 31) (.tuple #[.bool true, .string ⟨k.toArray⟩, .int .i64 n]) (ownT 31 rfl) hs
    refine ops_step (op := .extract (.tmp 31) 0) (dst := some 32) (by kernel_rfl) (fun o ho => r_ext (vs := #[.bool true, .string ⟨k.toArray⟩, .int .i64 n]) (v := .bool true) (by rw [L.at _ hs (by omega)]; rfl) ho rfl) ?_
    have L2 := L1.put (d := 32) (.bool true) (ownT 32 rfl) hs
    refine wp_seq (wp_cond_true (by show Array.getD _ 32 _ = _; rw [L1.at _ hs (by omega)]; rfl) (wp_skip (wp_block (wp_seq (wp_region ?_)))))
    have i2 : Array.getD (((a.put (some 31) (.tuple #[.bool true, .string ⟨k.toArray⟩, .int .i64 n])).put (some 32) (.bool true)).tmps) 30 Go.undef = .pointer (some ⟨w.heap.size, 0, none⟩) := by
      rw [L1.at _ hs (by omega), if_neg (by omega), L.at _ hs (by omega), if_neg (by omega)]; exact hJ.it
    generalize (a.put (some 31) (.tuple #[.bool true, .string ⟨k.toArray⟩, .int .i64 n])).put (some 32) (.bool true) = a2 at *
    rw [e9]
    refine ops_step (op := .entry (.tmp 30)) (dst := some 33) (by kernel_rfl) (fun o ho => r_entry i2 ho hent) ?_
    have L3 := L2.put (d := 33) (.tuple #[.string ⟨k.toArray⟩, .int .i64 n]) (ownT 33 rfl) hs
    refine ops_step (op := .extract (.tmp 33) 0) (dst := some 34) (by kernel_rfl) (fun o ho => r_ext (vs := #[.string ⟨k.toArray⟩, .int .i64 n]) (v := .string ⟨k.toArray⟩) (by rw [L2.at _ hs (by omega)]; rfl) ho rfl) ?_
    have L4 := L3.put (d := 34) (.string ⟨k.toArray⟩) (ownT 34 rfl) hs
    refine ops_step (op := .extract (.tmp 33) 1) (dst := some 35) (by kernel_rfl) (fun o ho => r_ext (vs := #[.string ⟨k.toArray⟩, .int .i64 n]) (v := .int .i64 n) (by rw [L3.at _ hs (by omega), if_neg (by omega), L2.at _ hs (by omega)]; rfl) ho rfl) ?_
    have L5 := L4.put (d := 35) (.int .i64 n) (ownT 35 rfl) hs
    refine ops_step (op := .assign (.tmp 34)) (dst := some 10) (by kernel_rfl) (fun o ho => r_asg (v := .string ⟨k.toArray⟩) (by rw [L4.at _ hs (by omega), if_neg (by omega), L3.at _ hs (by omega)]; rfl) ho) ?_
    have L6 := L5.put (d := 10) (.string ⟨k.toArray⟩) (ownT 10 rfl) hs
    refine ops_step (op := .assign (.tmp 35)) (dst := some 11) (by kernel_rfl) (fun o ho => r_asg (v := .int .i64 n) (by rw [L5.at _ hs (by omega), if_neg (by omega), L4.at _ hs (by omega)]; rfl) ho) ?_
    have L7 := L6.put (d := 11) (.int .i64 n) (ownT 11 rfl) hs
    have i3 : Array.getD (((((a2.put (some 33) (.tuple #[.string ⟨k.toArray⟩, .int .i64 n])).put (some 34) (.string ⟨k.toArray⟩)).put (some 35) (.int .i64 n)).put (some 10) (.string ⟨k.toArray⟩)).put (some 11) (.int .i64 n)).tmps 30 Go.undef = .pointer (some ⟨w.heap.size, 0, none⟩) := by
      rw [L6.at _ hs (by omega), if_neg (by omega), L5.at _ hs (by omega), if_neg (by omega), L4.at _ hs (by omega), if_neg (by omega), L3.at _ hs (by omega), if_neg (by omega), L2.at _ hs (by omega), if_neg (by omega)]; exact i2
    have i4 : Array.getD (((((a2.put (some 33) (.tuple #[.string ⟨k.toArray⟩, .int .i64 n])).put (some 34) (.string ⟨k.toArray⟩)).put (some 35) (.int .i64 n)).put (some 10) (.string ⟨k.toArray⟩)).put (some 11) (.int .i64 n)).tmps 10 Go.undef = .string ⟨k.toArray⟩ := by
      rw [L6.at _ hs (by omega), if_neg (by omega), L5.at _ hs (by omega)]; rfl
    have i5 : Array.getD (((((a2.put (some 33) (.tuple #[.string ⟨k.toArray⟩, .int .i64 n])).put (some 34) (.string ⟨k.toArray⟩)).put (some 35) (.int .i64 n)).put (some 10) (.string ⟨k.toArray⟩)).put (some 11) (.int .i64 n)).tmps 11 Go.undef = .int .i64 n := by
      rw [L6.at _ hs (by omega)]; rfl
    generalize (((((a2.put (some 33) (.tuple #[.string ⟨k.toArray⟩, .int .i64 n])).put (some 34) (.string ⟨k.toArray⟩)).put (some 35) (.int .i64 n)).put (some 10) (.string ⟨k.toArray⟩)).put (some 11) (.int .i64 n)) = a3 at *
    refine wp_seq (wp_region ?_)
    rw [e10]
    have g0 : a3.tmps.getD 0 Go.undef = .pointer (some ⟨b0, 0, none⟩) := by rw [L7.rest 0 (by unfold own; omega)]; exact h0
    have g3 : a3.tmps.getD 3 Go.undef = .int .i64 now := by rw [L7.rest 3 (by unfold own; omega)]; exact h3
    refine ops_step (op := .move (.tmp 11)) (dst := some 36) (by kernel_rfl) (fun o ho => r_mov i5 ho) ?_
    have M1 := L7.put (d := 36) (.int .i64 n) (ownT 36 rfl) hs
    refine ops_step (op := .move (.tmp 3)) (dst := some 37) (by kernel_rfl) (fun o ho => r_mov (v := .int .i64 now) (by rw [L7.at _ hs (by omega), if_neg (by omega)]; exact g3) ho) ?_
    have M2 := M1.put (d := 37) (.int .i64 now) (ownT 37 rfl) hs
    refine ops_step (op := .move (.tmp 0)) (dst := some 38) (by kernel_rfl) (fun o ho => r_mov (v := .pointer (some ⟨b0, 0, none⟩)) (by rw [M1.at _ hs (by omega), if_neg (by omega), L7.at _ hs (by omega), if_neg (by omega)]; exact g0) ho) ?_
    have M3 := M2.put (d := 38) (.pointer (some ⟨b0, 0, none⟩)) (ownT 38 rfl) hs
    refine ops_step (op := .nilCheck (.tmp 38)) (dst := some 39) (by kernel_rfl) (fun o ho => r_nil (q := ⟨b0, 0, none⟩) (by rw [M2.at _ hs (by omega)]; rfl) ho) ?_
    have M4 := M3.put (d := 39) (.pointer (some ⟨b0, 0, none⟩)) (ownT 39 rfl) hs
    refine ops_step (op := .fieldAddr 153 (.tmp 39) 1) (dst := some 40) (by kernel_rfl) (fun o ho => r_fld (b := b0) (off := 0) (by rw [M3.at _ hs (by omega)]; rfl) ho (by omega)) ?_
    have M5 := M4.put (d := 40) (.pointer (some ⟨b0, 1, none⟩)) (ownT 40 rfl) hs
    refine ops_step (op := .load 3 (.tmp 40)) (dst := some 41) (by kernel_rfl) (fun o ho => r_lint (b := b0) (off := 1) (n := window) (by rw [M4.at _ hs (by omega)]; rfl) ho c1) ?_
    have M6 := M5.put (d := 41) (.int .i64 window) (ownT 41 rfl) hs
    refine ops_step (op := .binOp .sub 3 (.tmp 37) (.tmp 41) 3) (dst := some 42) (by kernel_rfl) (fun o ho => r_sub (x := now) (y := window)
      (by rw [M5.at _ hs (by omega), if_neg (by omega), M4.at _ hs (by omega), if_neg (by omega), M3.at _ hs (by omega), if_neg (by omega), M2.at _ hs (by omega), if_neg (by omega), M1.at _ hs (by omega)]; rfl)
      (by rw [M5.at _ hs (by omega)]; rfl) ho) ?_
    have M7 := M6.put (d := 42) (.int .i64 (IntKind.i64.wrap (now - window))) (ownT 42 rfl) hs
    refine ops_step (op := .binOp .lss 3 (.tmp 36) (.tmp 42) 3) (dst := some 43) (by kernel_rfl) (fun o ho => r_lss (x := n) (y := IntKind.i64.wrap (now - window))
      (by rw [M6.at _ hs (by omega), if_neg (by omega), M5.at _ hs (by omega), if_neg (by omega), M4.at _ hs (by omega), if_neg (by omega), M3.at _ hs (by omega), if_neg (by omega), M2.at _ hs (by omega), if_neg (by omega), M1.at _ hs (by omega), if_neg (by omega), L7.at _ hs (by omega)]; rfl)
      (by rw [M6.at _ hs (by omega)]; rfl) ho) ?_
    have M8 := M7.put (d := 43) (.bool (decide (n < IntKind.i64.wrap (now - window)))) (ownT 43 rfl) hs
    have j0 : Array.getD ((((((((((a3.put (some 36) (.int .i64 n)).put (some 37) (.int .i64 now)).put (some 38) (.pointer (some ⟨b0, 0, none⟩))).put (some 39) (.pointer (some ⟨b0, 0, none⟩))).put (some 40) (.pointer (some ⟨b0, 1, none⟩))).put (some 41) (.int .i64 window)).put (some 42) (.int .i64 (IntKind.i64.wrap (now - window))))).put (some 43) (.bool (decide (n < IntKind.i64.wrap (now - window)))))).tmps 43 Go.undef = .bool (decide (n < IntKind.i64.wrap (now - window))) := by
      rw [M7.at _ hs (by omega)]; rfl
    have j1 : ∀ t, t < 30 ∨ t = 30 → Array.getD ((((((((((a3.put (some 36) (.int .i64 n)).put (some 37) (.int .i64 now)).put (some 38) (.pointer (some ⟨b0, 0, none⟩))).put (some 39) (.pointer (some ⟨b0, 0, none⟩))).put (some 40) (.pointer (some ⟨b0, 1, none⟩))).put (some 41) (.int .i64 window)).put (some 42) (.int .i64 (IntKind.i64.wrap (now - window))))).put (some 43) (.bool (decide (n < IntKind.i64.wrap (now - window)))))).tmps t Go.undef = a3.tmps.getD t Go.undef := fun t ht => by
      rw [M7.at _ hs (by omega), if_neg (by omega), M6.at _ hs (by omega), if_neg (by omega), M5.at _ hs (by omega), if_neg (by omega), M4.at _ hs (by omega), if_neg (by omega), M3.at _ hs (by omega), if_neg (by omega), M2.at _ hs (by omega), if_neg (by omega), M1.at _ hs (by omega), if_neg (by omega), L7.at _ hs (by omega), if_neg (by omega)]
    generalize ((((((((a3.put (some 36) (.int .i64 n)).put (some 37) (.int .i64 now)).put (some 38) (.pointer (some ⟨b0, 0, none⟩))).put (some 39) (.pointer (some ⟨b0, 0, none⟩))).put (some 40) (.pointer (some ⟨b0, 1, none⟩))).put (some 41) (.int .i64 window)).put (some 42) (.int .i64 (IntKind.i64.wrap (now - window))))).put (some 43) (.bool (decide (n < IntKind.i64.wrap (now - window)))) = a4 at *
    have k30 : a4.tmps.getD 30 Go.undef = .pointer (some ⟨w.heap.size, 0, none⟩) := by rw [j1 30 (by omega)]; exact i3
    by_cases hlt : n < IntKind.i64.wrap (now - window)
    · have hkf : kp (IntKind.i64.wrap (now - window)) e = false := by simp only [kp, hval, hlt, decide_true, Bool.not_true]
      rw [decide_eq_true hlt] at j0
      obtain ⟨ix, f1, f2⟩ := findNow_at en'.toList e 0 hem (fun x hx => by obtain ⟨k', _, h, _⟩ := hk x (hsub x hx); exact ⟨k', h⟩) hkn'
      rw [hkey, hval, Nat.zero_add] at f1
      have hix : ix < en'.size := by have := (List.getElem?_eq_some_iff.1 f2).1; simpa using this
      have f3 : (en'.eraseIdxIfInBounds ix).toList = en.toList.filter fun x => !(seen.push e.born).contains x.born || kp (IntKind.i64.wrap (now - window)) x := by
        have : (en'.eraseIdxIfInBounds ix).toList = en'.toList.eraseIdx ix := by unfold Array.eraseIdxIfInBounds; rw [dif_pos hix]; simp
        rw [this, erase_filter _ e ix f2 hbn', hJ.ent, ent_drop hbn hee hkf]
      refine wp_cond_true (by exact j0) (wp_region ?_)
      rw [e11]
      have q0 : a4.tmps.getD 0 Go.undef = .pointer (some ⟨b0, 0, none⟩) := by rw [j1 0 (by omega)]; exact g0
      have q10 : a4.tmps.getD 10 Go.undef = .string ⟨k.toArray⟩ := by rw [j1 10 (by omega)]; exact i4
      refine ops_step (op := .move (.tmp 0)) (dst := some 44) (by kernel_rfl) (fun o ho => r_mov q0 ho) ?_
      have N1 := M8.put (d := 44) (.pointer (some ⟨b0, 0, none⟩)) (ownT 44 rfl) hs
      refine ops_step (op := .nilCheck (.tmp 44)) (dst := some 45) (by kernel_rfl) (fun o ho => r_nil (q := ⟨b0, 0, none⟩) (by rw [M8.at _ hs (by omega)]; rfl) ho) ?_
      have N2 := N1.put (d := 45) (.pointer (some ⟨b0, 0, none⟩)) (ownT 45 rfl) hs
      refine ops_step (op := .fieldAddr 153 (.tmp 45) 2) (dst := some 46) (by kernel_rfl) (fun o ho => r_fld (b := b0) (off := 0) (by rw [N1.at _ hs (by omega)]; rfl) ho (by omega)) ?_
      have N3 := N2.put (d := 46) (.pointer (some ⟨b0, 2, none⟩)) (ownT 46 rfl) hs
      refine ops_step (op := .load 151 (.tmp 46)) (dst := some 47) (by kernel_rfl) (fun o ho => r_lmap (b := b0) (off := 2) (b1 := b1) (by rw [N2.at _ hs (by omega)]; rfl) ho c2) ?_
      have N4 := N3.put (d := 47) (.map (some b1)) (ownT 47 rfl) hs
      refine ops_step (op := .move (.tmp 10)) (dst := some 48) (by kernel_rfl) (fun o ho => r_mov (v := .string ⟨k.toArray⟩) (by rw [N3.at _ hs (by omega), if_neg (by omega), N2.at _ hs (by omega), if_neg (by omega), N1.at _ hs (by omega), if_neg (by omega), M8.at _ hs (by omega), if_neg (by omega)]; exact q10) ho) ?_
      have N5 := N4.put (d := 48) (.string ⟨k.toArray⟩) (ownT 48 rfl) hs
      refine ops_step (op := .call { callee := .builtin .delete, args := #[.tmp 47, .tmp 48], argTypes := #[151, 9] }) (dst := none) (by kernel_rfl) (fun o ho => r_del (b1 := b1) (k := ⟨k.toArray⟩) (en := en') (clock := clock) (i := ix) (y := .int .i64 n)
        (by rw [N4.at _ hs (by omega), if_neg (by omega), N3.at _ hs (by omega)]; rfl) (by rw [N4.at _ hs (by omega)]; rfl) ho p5 f1) ?_
      have J5 : J w a0 b0 b1 en clock (IntKind.i64.wrap (now - window)) (((((a4.put (some 44) (.pointer (some ⟨b0, 0, none⟩))).put (some 45) (.pointer (some ⟨b0, 0, none⟩))).put (some 46) (.pointer (some ⟨b0, 2, none⟩))).put (some 47) (.map (some b1))).put (some 48) (.string ⟨k.toArray⟩))
          (setBlock W2 b1 (.map (en'.eraseIdxIfInBounds ix) clock)) (en'.eraseIdxIfInBounds ix) (seen.push e.born) := by
        refine ⟨N5, ?_, ?_, ?_, ?_, ?_, p4.1, p4.2.1, p4.2.2, f3⟩
        · rw [N4.at _ hs (by omega), if_neg (by omega), N3.at _ hs (by omega), if_neg (by omega), N2.at _ hs (by omega), if_neg (by omega), N1.at _ hs (by omega), if_neg (by omega), M8.at _ hs (by omega), if_neg (by omega)]; exact k30
        · simp only [setBlock, Array.size_setIfInBounds, p3]
        · intro b hb hbb; exact (put_other (w := W2) hbb).trans ((p2 b (by omega)).trans (hJ.frame b hb hbb))
        · exact put_get (w := W2) (by omega)
        · exact (put_other (w := W2) (by omega)).trans p1
      refine ⟨⟨_, _, J5⟩, ?_⟩
      show mu b1 w.heap.size (setBlock W2 b1 (.map (en'.eraseIdxIfInBounds ix) clock)) < _
      rw [J5.mu]
      refine Nat.lt_of_le_of_lt ?_ hmu
      have e1 : ∀ a : Array MapEntry, (leftOf a (seen.push e.born)).size = (a.toList.filter fun x => !(seen.push e.born).contains x.born).length := fun a => by
        unfold leftOf
        rw [← Array.toList_filter, Array.length_toList]
      rw [e1, e1]
      have : (en'.eraseIdxIfInBounds ix).toList.Sublist en'.toList := by
        unfold Array.eraseIdxIfInBounds; rw [dif_pos hix]; simp only [Array.toList_eraseIdx]; exact List.eraseIdx_sublist _ _
      exact (this.filter _).length_le
    · have hkt : kp (IntKind.i64.wrap (now - window)) e = true := by simp only [kp, hval, hlt, decide_false, Bool.not_false]
      rw [decide_eq_false hlt] at j0
      refine wp_cond_false (by exact j0) (wp_skip ?_)
      have J5 : J w a0 b0 b1 en clock (IntKind.i64.wrap (now - window)) a4 W2 en' (seen.push e.born) :=
        ⟨M8, k30, p3, fun b hb hbb => (p2 b (by omega)).trans (hJ.frame b hb hbb), p5, p1, p4.1, p4.2.1, p4.2.2, by rw [hJ.ent]; exact ent_step hbn hee hkt⟩
      refine ⟨⟨_, _, J5⟩, ?_⟩
      rw [J5.mu]
      exact hmu
end
end Go.Dm.See
set_option linter.unusedSimpArgs false
set_option linter.unusedVariables false
namespace Go.Dm.See
open Go Go.Dm Go.Proofs
open Go.ChangeMaps (setBlock)

/-! The whole chunk. -/
section
variable {w : World} {a0 : Act} {b0 b1 : Nat} {en : Array MapEntry} {clock : Nat} {room window now : Int} {e0 : TypeId} {fr : Nat × Nat}
set_option maxHeartbeats 1000000 in
theorem chunk_wp (hs : a0.tmps.size = 70) (h0 : a0.tmps.getD 0 Go.undef = .pointer (some ⟨b0, 0, none⟩)) (h3 : a0.tmps.getD 3 Go.undef = .int .i64 now)
    (hb0 : w.heap[b0]? = some (.cells #[.int .i64 room, .int .i64 window, .map (some b1)] e0 fr)) (hb1 : w.heap[b1]? = some (.map en clock))
    (hk : ∀ e ∈ en.toList, ∃ (k : List UInt8) (n : Int), e.key = .string ⟨k.toArray⟩ ∧ e.val = .int .i64 n) (hkn : (en.toList.map (·.key)).Nodup) (hbn : (en.toList.map (·.born)).Nodup) (hcl : ∀ e ∈ en.toList, e.born < clock)
    {Q : Exit → Act → World → Prop}
    (hQ : ∀ a' W', Like a0 a' → W'.heap.size = w.heap.size + 1 → (∀ b, b < w.heap.size → b ≠ b1 → W'.heap[b]? = w.heap[b]?) → W'.os = w.os → W'.tape = w.tape → W'.output = w.output →
      (∃ en'' : Array MapEntry, W'.heap[b1]? = some (.map en'' clock) ∧ en''.toList = en.toList.filter (kp (IntKind.i64.wrap (now - window)))) → Q .normal a' W') :
    chunk.wp Tryz.prog Q a0 w := by
  have hlt0 : b0 < w.heap.size := (Array.getElem?_eq_some_iff.1 hb0).1
  have hlt1 : b1 < w.heap.size := (Array.getElem?_eq_some_iff.1 hb1).1
  have c2 : w.cell? ⟨b0, 2, none⟩ = some (.map (some b1)) := by simp [World.cell?, hb0]
  have L := Like.refl a0
  rw [chunk_eq]
  refine wp_seq (wp_region ?_)
  rw [e7]
  refine ops_step (op := .move (.tmp 0)) (dst := some 26) (by kernel_rfl) (fun o ho => r_mov h0 ho) ?_
  have M1 := L.put (d := 26) (.pointer (some ⟨b0, 0, none⟩)) (ownT 26 rfl) hs
  refine ops_step (op := .nilCheck (.tmp 26)) (dst := some 27) (by kernel_rfl) (fun o ho => r_nil (q := ⟨b0, 0, none⟩) (by rw [L.at _ hs (by omega)]; rfl) ho) ?_
  have M2 := M1.put (d := 27) (.pointer (some ⟨b0, 0, none⟩)) (ownT 27 rfl) hs
  refine ops_step (op := .fieldAddr 153 (.tmp 27) 2) (dst := some 28) (by kernel_rfl) (fun o ho => r_fld (b := b0) (off := 0) (by rw [M1.at _ hs (by omega)]; rfl) ho (by omega)) ?_
  have M3 := M2.put (d := 28) (.pointer (some ⟨b0, 2, none⟩)) (ownT 28 rfl) hs
  refine ops_step (op := .load 151 (.tmp 28)) (dst := some 29) (by kernel_rfl) (fun o ho => r_lmap (b := b0) (off := 2) (b1 := b1) (by rw [M2.at _ hs (by omega)]; rfl) ho c2) ?_
  have M4 := M3.put (d := 29) (.map (some b1)) (ownT 29 rfl) hs
  refine ops_step (op := .range 151 (.tmp 29)) (dst := some 30) (by kernel_rfl) (fun o ho => r_range (b1 := b1) (clock := clock) (en := en) (by rw [M3.at _ hs (by omega)]; rfl) ho hb1) ?_
  have M5 := M4.put (d := 30) (.pointer (some ⟨w.heap.size, 0, none⟩)) (ownT 30 rfl) hs
  have hJ : J w a0 b0 b1 en clock (IntKind.i64.wrap (now - window)) (((((a0.put (some 26) (.pointer (some ⟨b0, 0, none⟩))).put (some 27) (.pointer (some ⟨b0, 0, none⟩))).put (some 28) (.pointer (some ⟨b0, 2, none⟩))).put (some 29) (.map (some b1))).put (some 30) (.pointer (some ⟨w.heap.size, 0, none⟩)))
      (w.alloc (.mapIter (some b1) clock #[] clock)) en #[] :=
    ⟨M5, by rw [M4.at _ hs (by omega)]; rfl, World.size_alloc _ _, fun b hb _ => heap_alloc_old w _ hb, (heap_alloc_old w _ hlt1).trans hb1, heap_alloc_new w _, rfl, rfl, rfl, by
      rw [List.filter_eq_self.2]; intro x _; simp⟩
  refine wp_block (wp_loop (fun a W => ∃ en' seen, J w a0 b0 b1 en clock (IntKind.i64.wrap (now - window)) a W en' seen) (fun _ W => mu b1 w.heap.size W) ⟨en, #[], hJ⟩ ?_)
  rintro a W ⟨en', seen, hJ'⟩
  refine loop_round hs h0 h3 hb0 hb1 hk hkn hbn hcl hJ' ?_
  intro a' W' q1 q2 q3 q4 q5 q6 q7
  exact hQ a' W' q1 q2 q3 q4 q5 q6 q7
end

/-! What it does to the abstract state. -/
def keepV (limit : Int) (p : V × V) : Bool := match p.2 with
  | .int _ n => !decide (n < limit)
  | _ => true
def okE : List (V × V) → Bool
  | [] => true
  | (.str k, .int .i64 _) :: r => r.all (fun p => match p.1 with | .str k' => k' != k | _ => false) && okE r
  | _ => false
def ownL : List Nat := [10, 11, 26, 27, 28, 29, 30, 31, 32, 33, 34, 35, 36, 37, 38, 39, 40, 41, 42, 43, 44, 45, 46, 47, 48]
def clearL (l : List Nat) (env : List V) : List V := l.foldl (fun e t => e.set t .undef) env
def pruneS (s : St) : Option St :=
  match s.env.getD 0 .undef, s.env.getD 3 .undef with
  | .hp h 0 0, .int .i64 now => match getO s.objs h with
    | some (.box [.int .i64 _, .int .i64 window, .hm m]) => match getO s.objs m with
      | some (.mp es) => if s.env.length = 70 ∧ okE es = true then
          some ⟨clearL ownL s.env, putO s.objs m (.mp (es.filter (keepV (IntKind.i64.wrap (now - window))))), s.nxt, s.kept⟩ else none
      | _ => none
    | _ => none
  | _, _ => none

theorem clearL_len : ∀ (l : List Nat) (env : List V), (clearL l env).length = env.length
  | [], env => rfl
  | t :: l, env => by rw [clearL, List.foldl_cons]; exact (clearL_len l _).trans (by simp)
theorem clearL_at : ∀ (l : List Nat) (env : List V) (t : Nat), (clearL l env).getD t .undef = .undef ∨ (t ∉ l ∧ (clearL l env).getD t .undef = env.getD t .undef)
  | [], env, t => .inr ⟨by simp, rfl⟩
  | k :: l, env, t => by
    rw [clearL, List.foldl_cons]
    rcases clearL_at l (env.set k .undef) t with h | ⟨h1, h2⟩
    · exact .inl h
    · by_cases hk : t = k
      · left
        refine h2.trans ?_
        subst hk
        rw [List.getD_eq_getElem?_getD]
        by_cases hlt : t < env.length
        · rw [List.getElem?_set_self hlt]; rfl
        · rw [List.getElem?_eq_none (by simp; omega)]; rfl
      · right
        refine ⟨by simp [hk, h1], h2.trans ?_⟩
        rw [List.getD_eq_getElem?_getD, List.getElem?_set_ne (Ne.symm hk), List.getD_eq_getElem?_getD]

section
variable {w0 w w' : World} {O I0 I : Nat → Prop} {ρ : Rho} {g : Nat → Option Obj} {used : Nat → Prop}
theorem Rel.more (hR : Rel w0 O I0 I ρ g used w) (h1 : w'.os = w.os) (h2 : w'.tape = w.tape) (h3 : w'.output = w.output) (hsz : w.heap.size ≤ w'.heap.size) (hh : ∀ b, b < w.heap.size → w'.heap[b]? = w.heap[b]?) :
    Rel w0 O I0 I ρ g used w' ∧ Ext w I ρ w' I ρ := by
  have hc : ∀ b, csize w b ≤ csize w' b := fun b => by
    unfold csize
    by_cases hb : b < w.heap.size
    · rw [hh b hb]; exact Nat.le_refl _
    · rw [Array.getElem?_eq_none (by omega)]; exact Nat.zero_le _
  have hx : Ext w I ρ w' I ρ := ⟨fun b hb => hh b (hR.ilt b hb), hc, fun _ h => h, fun _ _ h => h⟩
  refine ⟨⟨h1.trans hR.os, h2.trans hR.tape, h3.trans hR.output, Nat.le_trans hR.size hsz, fun b hb hO => (hh b (Nat.lt_of_lt_of_le hb hR.size)).trans (hR.frame b hb hO), fun b => Nat.le_trans (hR.csz b) (hc b),
    fun b hb => Nat.lt_of_lt_of_le (hR.ilt b hb) hsz, hR.isub, hR.dom, fun h o ho => ?_, hR.inj⟩, hx⟩
  obtain ⟨b, s, q1, q2, q3, q4⟩ := hR.obj h o ho
  exact ⟨b, s, q1, q2, q3, q4.ext hx (hh b q4.lt)⟩

theorem ents : ∀ (l : List MapEntry) (es : List (V × V)), RL w I rho0 (entL l) (mpL es) → okE es = true →
    (∀ e ∈ l, ∃ (k : List UInt8) (n : Int), e.key = .string ⟨k.toArray⟩ ∧ e.val = .int .i64 n) ∧ (l.map (·.key)).Nodup ∧
    (∀ limit, RL w I rho0 (entL (l.filter (kp limit))) (mpL (es.filter (keepV limit)))) ∧ (∀ e ∈ l, ∃ p ∈ es, ∃ k : List UInt8, p.1 = .str k ∧ e.key = .string ⟨k.toArray⟩)
  | [], [], _, _ => ⟨by simp, by simp, fun _ => RL.nil, by simp⟩
  | [], p :: es, h, _ => by have := h.length; simp [entL, mpL] at this
  | e :: l, [], h, _ => by have := h.length; simp [entL, mpL] at this
  | e :: l, (x, y) :: es, h, hok => by
    rw [entL_cons, mpL_cons] at h
    obtain ⟨hkx, h1⟩ := h.cons_split
    obtain ⟨hvy, h2⟩ := h1.cons_split
    clear h h1
    unfold okE at hok
    split at hok
    · rename_i e1; cases e1
    · rename_i k n r e1
      cases e1
      simp only [Bool.and_eq_true] at hok
      obtain ⟨i1, i2, i3, i4⟩ := ents l es h2 hok.2
      have ek := inv_str hkx
      have ev := inv_int hvy
      refine ⟨?_, ?_, fun limit => ?_, ?_⟩
      · intro x hx
        rcases List.mem_cons.1 hx with rfl | hx
        · exact ⟨k, n, ek, ev⟩
        · exact i1 x hx
      · rw [List.map_cons, List.nodup_cons]
        refine ⟨fun hm => ?_, i2⟩
        obtain ⟨z, hz, hzk⟩ := List.mem_map.1 hm
        obtain ⟨p, hp, k', q1, q2⟩ := i4 z hz
        have := List.all_eq_true.1 hok.1 p hp
        rw [q1] at this
        rw [q2, ek] at hzk
        have : k' ≠ k := by simpa using this
        apply this
        have hb : (⟨k'.toArray⟩ : ByteArray) = ⟨k.toArray⟩ := by injection hzk
        have hb2 : k'.toArray = k.toArray := by injection hb
        exact List.toArray_inj hb2
      · have e1 : kp limit e = !decide (n < limit) := by simp only [kp, ev]
        have e2 : keepV limit (.str k, .int .i64 n) = !decide (n < limit) := rfl
        rw [List.filter_cons, List.filter_cons, e1, e2]
        split
        · rw [entL_cons, mpL_cons]; exact RL.cons hkx (RL.cons hvy (i3 limit))
        · exact i3 limit
      · intro x hx
        rcases List.mem_cons.1 hx with rfl | hx
        · exact ⟨(.str k, .int .i64 n), List.mem_cons_self, k, rfl, ek⟩
        · obtain ⟨p, hp, q⟩ := i4 x hx
          exact ⟨p, by simp [hp], q⟩
    · cases hok
end

set_option maxHeartbeats 2000000 in
theorem prune_sound {gl : Nat → Option (List V)} {w0 w : World} {O I0 : Nat → Prop} {ρ0 : Rho} {kept : Nat} {s s2 : St} {a : Act} {Q : Exit → Act → World → Prop} (hs : SS gl w0 O I0 ρ0 kept s a w) (h : pruneS s = some s2)
    (hQ : ∀ a' w', SS gl w0 O I0 ρ0 kept s2 a' w' → Q .normal a' w') : chunk.wp Tryz.prog Q a w := by
  obtain ⟨hk, used, I, ρ, hS, hu⟩ := hs
  unfold pruneS at h
  split at h
  case h_2 => cases h
  rename_i hh now e0 e3
  split at h
  case h_2 => cases h
  rename_i room window m hbox
  split at h
  case h_2 => cases h
  rename_i es hmp
  split at h
  case isFalse => cases h
  rename_i hcond
  obtain ⟨hlen, hok⟩ := hcond
  rw [Option.some.injEq] at h
  subst h
  obtain ⟨b0, s0, r1, r2, r3, r4⟩ := hS.rel.obj hh _ hbox
  obtain ⟨rf, cs, e0', fr, rb0, _, rl⟩ := r4
  obtain ⟨b1, s1, t1, t2, t3, t4⟩ := hS.rel.obj m _ hmp
  obtain ⟨en, clock, tb1, tl, tbn, tcl⟩ := id t4
  -- the struct's cells
  have hcs : cs = #[.int .i64 room, .int .i64 window, .map (some b1)] := by
    have hl := rl.length
    generalize hcl : cs.toList = L at rl hl
    match L, hl with
    | [x, y, z], _ =>
      obtain ⟨q1, rl⟩ := rl.cons_split
      obtain ⟨q2, rl⟩ := rl.cons_split
      obtain ⟨bm, sm, q3, q4⟩ := inv_hm rl
      rw [t1] at q4
      cases q4
      rw [inv_int q1, inv_int q2, q3] at hcl
      exact Array.toList_inj.1 hcl
  subst hcs
  have sl0 : a.tmps.getD 0 Go.undef = .pointer (some ⟨b0, 0, none⟩) := by
    have : R w I ρ (a.tmps.getD 0 Go.undef) (s.env.getD 0 .undef) := hS.envr 0
    rw [e0] at this
    obtain ⟨b, s', q1, q2⟩ := inv_hp this
    rw [r1] at q2
    cases q2
    rw [q1]; simp
  have sl3 : a.tmps.getD 3 Go.undef = .int .i64 now := by
    have : R w I ρ (a.tmps.getD 3 Go.undef) (s.env.getD 3 .undef) := hS.envr 3
    rw [e3] at this
    exact inv_int this
  obtain ⟨n1, n2, n3, _⟩ := ents en.toList es tl hok
  have hsz : a.tmps.size = 70 := hS.len ▸ hlen
  have hcl := clearL_at ownL s.env
  have hcl2 := clearL_len ownL s.env
  generalize clearL ownL s.env = env2 at hcl hcl2 hQ
  refine chunk_wp hsz sl0 sl3 rb0 tb1 n1 n2 tbn tcl ?_
  intro a' W' q1 q2 q3 q4 q5 q6 ⟨en'', q7, q8⟩
  refine hQ a' W' ⟨hk, used, I, ρ, ?_, hu⟩
  -- the relation
  have hlt1 : b1 < w.heap.size := (Array.getElem?_eq_some_iff.1 tb1).1
  have hc0 : csize w b1 = 0 := by unfold csize; rw [tb1]
  obtain ⟨hR1, hx1⟩ := hS.rel.write m (.mp es) (.mp (es.filter (keepV (IntKind.i64.wrap (now - window))))) b1 s1 hmp t1 (.map en'' clock) (by rw [hc0]; exact Nat.zero_le _)
    (fun hx => ⟨en'', clock, put_get hlt1, by rw [q8]; exact hx.rl0 (n3 _), by rw [q8]; exact tbn.sublist (List.filter_sublist.map _), fun e he => by rw [q8] at he; exact tcl e (List.mem_filter.1 he).1⟩)
  obtain ⟨hR2, hx2⟩ := Rel.more (w' := W') hR1 q4 q5 q6 (by rw [put_size, q2]; omega) (fun b hb => by
    rw [put_size] at hb
    by_cases e : b = b1
    · subst e; rw [put_get hb]; exact q7
    · rw [put_other e]; exact q3 b hb e)
  have hx := hx1.trans hx2
  refine ⟨by rw [getO_put]; exact hR2, fun t => ?_, by rw [hcl2, q1.size]; exact hS.len, hS.glr.ext hx, hS.keep, q1.dfr.trans hS.dfr⟩
  rcases hcl t with e | ⟨e1, e2⟩
  · show R _ _ _ _ (env2.getD t .undef)
    rw [e]; exact RL.undef _ RL.nil
  · show R _ _ _ _ (env2.getD t .undef)
    rw [e2, q1.rest t (fun ho => e1 (by
      unfold own at ho
      simp only [ownL, List.mem_cons, List.not_mem_nil, or_false]
      omega))]
    exact hx.rl (hS.envr t)
end Go.Dm.See
set_option linter.unusedSimpArgs false
set_option linter.unusedVariables false
namespace Go.Dm.T
open Go.Dm
def d_see_r0 : DCode := .seqr [
  ⟨some 8, .op (.mov (.c (.int .i64 0))), none, 0, [], [], false⟩,
  ⟨some 9, .op (.mov (.c (.int .i64 0))), none, 1, [], [], false⟩]

def d_see_b0 : DCode := .block 0 (.seq (.seqr [
  ⟨some 13, .op (.mov (.t 0)), none, 0, [], [], false⟩,
  ⟨some 14, .call n_cache_Replay_is [(.t 13)], none, 1, [], [], false⟩,
  ⟨some 15, .op (.un .not (.t 14)), none, 2, [], [], false⟩,
  ⟨some 12, .op (.mov (.t 15)), none, 3, [], [], false⟩])
  (.cond (.t 12)
  (.seq (.seqr [
   ⟨some 8, .op (.mov (.c (.int .i64 0))), none, 0, [], [], false⟩,
   ⟨some 9, .op (.mov (.c (.int .i64 1))), none, 1, [], [], false⟩])
   (.ret))
  (.seq (.seqr [
   ⟨some 17, .op (.mov (.t 1)), none, 0, [], [], false⟩,
   ⟨some 18, .op (.lenS (.t 17)), none, 1, [], [], false⟩,
   ⟨some 19, .op (.bin .gtr (.t 18) (.c (.int .i64 4096))), none, 2, [], [], false⟩,
   ⟨some 16, .op (.mov (.t 19)), none, 3, [], [], false⟩])
   (.cond (.t 16)
   (.seq (.seqr [
    ⟨some 8, .op (.mov (.c (.int .i64 0))), none, 0, [], [], false⟩,
    ⟨some 9, .op (.mov (.c (.int .i64 3))), none, 1, [], [], false⟩])
    (.ret))
   (.seq (.seqr [
    ⟨some 21, .op (.mov (.t 2)), none, 0, [], [], false⟩,
    ⟨some 22, .op (.mov (.t 3)), none, 1, [], [], false⟩,
    ⟨some 23, .op (.bsl 1 [(.int .i64 0), (.int .i64 0)] [(0, (.t 21)), (1, (.t 22))]), none, 2, [], [], false⟩,
    ⟨some 24, .call n_cache_times [(.t 23)], none, 3, [], [], false⟩,
    ⟨some 25, .op (.un .not (.t 24)), none, 4, [], [], false⟩,
    ⟨some 20, .op (.mov (.t 25)), none, 5, [], [], false⟩])
    (.cond (.t 20)
    (.seq (.seqr [
     ⟨some 8, .op (.mov (.c (.int .i64 0))), none, 0, [], [], false⟩,
     ⟨some 9, .op (.mov (.c (.int .i64 2))), none, 1, [], [], false⟩])
     (.ret))
    (.skip)))))))

def d_see_B : DCode := .seq (.block 3 (.seq (.seqr [
  ⟨some 50, .op (.mov (.t 0)), none, 0, [], [], false⟩,
  ⟨some 51, .op (.mov (.t 1)), none, 1, [], [], false⟩,
  ⟨some 52, .call n_cache_Replay_Has [(.t 50), (.t 51)], none, 2, [], [], false⟩,
  ⟨some 49, .op (.mov (.t 52)), none, 3, [], [], false⟩])
  (.cond (.t 49)
  (.seq (.seqr [
   ⟨some 8, .op (.mov (.c (.int .i64 34))), none, 0, [], [], false⟩,
   ⟨some 9, .op (.mov (.c (.int .i64 0))), none, 1, [], [], false⟩])
   (.ret))
  (.seq (.drwr [
   ⟨some 54, .op (.mov (.t 0)), none, 0, [], [], false⟩,
   ⟨some 55, .op (.nilchk (.t 54)), none, 1, [], [], false⟩,
   ⟨some 56, .op (.faddr 2 (.t 55)), none, 2, [], [], false⟩,
   ⟨some 57, .op (.load 1 false (.t 56)), none, 3, [], [], false⟩,
   ⟨some 58, .op (.lenM (.t 57)), none, 4, [], [], false⟩,
   ⟨some 59, .op (.mov (.t 0)), none, 5, [], [], false⟩,
   ⟨some 60, .op (.nilchk (.t 59)), none, 6, [], [], false⟩,
   ⟨some 61, .op (.faddr 0 (.t 60)), none, 7, [], [], false⟩,
   ⟨some 62, .op (.load 1 false (.t 61)), none, 8, [], [], false⟩,
   ⟨some 63, .op (.bin .eql (.t 58) (.t 62)), none, 9, [], [], false⟩,
   ⟨some 53, .op (.mov (.t 63)), none, 10, [], [], false⟩])
   (.cond (.t 53)
   (.seq (.seqr [
    ⟨some 8, .op (.mov (.c (.int .i64 60))), none, 0, [], [], false⟩,
    ⟨some 9, .op (.mov (.c (.int .i64 0))), none, 1, [], [], false⟩])
    (.ret))
   (.skip))))))
  (.seq (.seqr [
  ⟨some 64, .op (.mov (.t 0)), none, 0, [], [], false⟩,
  ⟨some 65, .op (.nilchk (.t 64)), none, 1, [], [], false⟩,
  ⟨some 66, .op (.faddr 2 (.t 65)), none, 2, [], [], false⟩,
  ⟨some 67, .op (.load 1 false (.t 66)), none, 3, [], [], false⟩,
  ⟨some 68, .op (.mov (.t 1)), none, 4, [], [], false⟩,
  ⟨some 69, .op (.mov (.t 2)), none, 5, [], [], false⟩,
  ⟨none, .op (.mset 2 1 (.t 67) (.t 68) (.t 69)), none, 6, [], [], false⟩])
  (.seq (.seqr [
  ⟨some 8, .op (.mov (.c (.int .i64 0))), none, 0, [], [], false⟩,
  ⟨some 9, .op (.mov (.c (.int .i64 0))), none, 1, [], [], false⟩])
  (.ret)))


def seeFin (os : Objs) (s : St) : Option (V × Objs) := (resV s [.tmp 8, .tmp 9]).bind fun vs => packR s.objs os.length (one1 vs)
def seeRun (cs : CallSem) (lend : Nat → List Bool) (gl : Nat → Option (List V)) (args : List V) (os : Objs) : Option (V × Objs) :=
  match exec cs lend gl d_see_r0 ⟨args ++ List.replicate (70 - args.length) (.tup []), os, os.length, os.length⟩ with
  | some (.nrm, s0) => (match exec cs lend gl d_see_b0 s0 with
    | some (.ret, s) => seeFin os s
    | some (.nrm, s1) => (match See.pruneS s1 with
      | some s2 => (match exec cs lend gl d_see_B s2 with
        | some (.ret, s) => seeFin os s
        | _ => none)
      | none => none)
    | _ => none)
  | _ => none
end Go.Dm.T
namespace Go.Dm.See
open Go Go.Dm Go.Proofs Go.Dm.T
theorem k_r0 : cCode Tryz.prog T.eqs d_see_r0 (codeL body) = some d_see_r0 := by kernel_rfl
theorem k_b0 : cCode Tryz.prog T.eqs d_see_b0 (codeL (codeR body)) = some d_see_b0 := by kernel_rfl
theorem k_B : cCode Tryz.prog T.eqs d_see_B (codeR (codeR (codeR body))) = some d_see_B := by kernel_rfl
theorem f90_body : Tryz.f90.body = some body := by kernel_rfl
theorem f90_res : cRes Tryz.prog Tryz.f90.results.toList = some [.tmp 8, .tmp 9] := by kernel_rfl
theorem f90_n : Tryz.f90.ntmps = 70 := by kernel_rfl

section
variable {gl : Nat → Option (List V)} {cs : CallSem} {lend : Nat → List Bool}
set_option maxHeartbeats 2000000 in
theorem see_sound (hm : Tryz.prog.follows .mixedOrders = true) (hC : CSnd Tryz.prog gl cs) (hF : CEnt Tryz.prog cs) (hts : EqTypes Tryz.prog T.eqs) :
    CSnd Tryz.prog gl (fun f args os => if f = n_cache_Replay_See then seeRun cs lend gl args os else none) := by
  intro f args os r os' h w O I ρ cargs hR hargs hG hO
  simp only at h
  split at h
  case isFalse => cases h
  rename_i hf
  have hfn : Tryz.prog.funcs[f]? = some Tryz.f90 := by rw [hf]; exact Tryz.func90
  have hlen := hargs.length
  rw [Array.length_toList] at hlen
  have hS : SS gl w O I ρ os.length ⟨args ++ List.replicate (70 - args.length) (.tup []), os, os.length, os.length⟩ { tmps := cargs ++ Array.replicate (Tryz.f90.ntmps - cargs.size) Go.undef, defers := [] } w := by
    rw [f90_n]
    refine ⟨rfl, _, I, ρ, ⟨hR, fun t => ?_, by simp [hlen], hG, fun i p _ hp => hp, rfl⟩, fun h hh => hh⟩
    show R w I ρ ((cargs ++ Array.replicate (70 - cargs.size) Go.undef).getD t Go.undef) ((args ++ List.replicate (70 - args.length) (V.tup [])).getD t V.undef)
    rw [Array.getD_eq_getD_getElem?, List.getD_eq_getElem?_getD]
    by_cases ht : t < cargs.size
    · rw [Array.getElem?_append_left ht, List.getElem?_append_left (by omega)]
      obtain ⟨u, hu, hr⟩ := hargs.get (List.getElem?_eq_getElem (show t < args.length by omega))
      rw [List.getElem?_eq_getElem (show t < args.length by omega)]
      rw [Array.getElem?_toList] at hu
      rw [hu]
      exact hr
    · rw [Array.getElem?_append_right (by omega), List.getElem?_append_right (by omega)]
      rw [Array.getElem?_replicate, List.getElem?_replicate]
      by_cases h2 : t - cargs.size < 70 - cargs.size
      · rw [if_pos h2, if_pos (by omega)]
        exact RL.tup #[] [] RL.nil RL.nil
      · rw [if_neg h2, if_neg (by omega)]
        exact RL.undef _ RL.nil
  have fin : ∀ (s : St), seeFin os s = some (r, os') → Once os' ∧ ∀ a' w', SS gl w O I ρ os.length s a' w' → a'.defers = [] ∧ ∃ v, (results Tryz.f90 a'.tmps).run Tryz.prog w' = .ok v w' ∧ ∃ rv I' ρ', Ending.returned v = .returned rv ∧ R w' I' ρ' rv r ∧
      Rel w O I I' ρ' (getO os') (fun j => j < os.length ∨ (getO os' j).isSome = true) w' ∧ (∀ i p, i < os.length → ρ i = some p → ρ' i = some p) := by
    intro s hres
    obtain ⟨vs, hvs, hpk⟩ := Option.bind_eq_some_iff.1 hres
    have honce : Once os' := by
      unfold packR at hpk
      simp only at hpk
      split at hpk
      · rename_i h3; cases hpk; exact (packO_once h3).2
      · cases hpk
    refine ⟨honce, fun a' w' hS' => ?_⟩
    obtain ⟨hk, used', I', ρ', hs, hu⟩ := hS'
    obtain ⟨u, hu1, hu2⟩ := results_sound (fn := Tryz.f90) hs.rel hs.envr f90_res hvs
    obtain ⟨_, ρ'', p1, p2, p3⟩ := packR_sound hs.rel hu2 hpk
    exact ⟨hs.dfr, u, hu1, u, I', ρ'', rfl, p1, p2, fun i p hi hp => by rw [p3 i hi]; exact hs.keep i p hi hp⟩
  unfold seeRun at h
  split at h
  case h_2 => cases h
  rename_i s0 x0
  split at h
  · rename_i s x1
    obtain ⟨h1, h2⟩ := fin s h
    refine ⟨h1, .inl ⟨⟨Tryz.f90, hfn, by kernel_rfl, by kernel_rfl⟩, calls_of_wp hfn f90_body ?_⟩⟩
    rw [body_eq]
    refine wp_seq (exec_sound hm hC hF hts _ _ _ k_r0 _ .nrm s0 _ w _ x0 hS fun a1 w1 S1 => ?_)
    refine wp_seq (exec_sound hm hC hF hts _ _ _ k_b0 _ .ret s _ w1 _ x1 S1 fun a2 w2 S2 => ?_)
    exact h2 a2 w2 S2
  · rename_i s1 x1
    split at h
    case h_2 => cases h
    rename_i s2 x2
    split at h
    case h_2 => cases h
    rename_i s x3
    obtain ⟨h1, h2⟩ := fin s h
    refine ⟨h1, .inl ⟨⟨Tryz.f90, hfn, by kernel_rfl, by kernel_rfl⟩, calls_of_wp hfn f90_body ?_⟩⟩
    rw [body_eq]
    refine wp_seq (exec_sound hm hC hF hts _ _ _ k_r0 _ .nrm s0 _ w _ x0 hS fun a1 w1 S1 => ?_)
    refine wp_seq (exec_sound hm hC hF hts _ _ _ k_b0 _ .nrm s1 _ w1 _ x1 S1 fun a2 w2 S2 => ?_)
    refine wp_seq (prune_sound S2 x2 fun a3 w3 S3 => ?_)
    refine exec_sound hm hC hF hts _ _ _ k_B _ .ret s _ w3 _ x3 S3 fun a4 w4 S4 => ?_
    exact h2 a4 w4 S4
  · cases h
end
end Go.Dm.See
