/- How a law's call begins and ends, whatever its arguments. -/
import Derived.Test.YtllfbfkjbhpfeaaGreatDoorWa
import Derived.Test.YtllfbfkjbhpfeaaGreatDoorTk
import Derived.Test.YtllfbfkjbhpfeaaGreatDoorDc
import Derived.OpenShut
import Derived.DataReads
import Derived.Test.YtllfbfkjbhpfeaaGreatDoorCa
import Derived.Test.YtllfbfkjbhpfeaaGreatDoorCards
import Derived.Test.YtllfbfkjbhpfeaaGreatDoorTie
import Derived.WalkKit
import Derived.ProofKit
import Derived.LaidHandle
import Derived.Stop.LaidErr
import Derived.Deep.DeepHandedRow
import Derived.Lib.LaidTab
set_option linter.unusedSimpArgs false
set_option linter.unusedVariables false
set_option linter.unusedSectionVars false
set_option linter.unusedSimpArgs false
set_option linter.unusedVariables false
namespace Go.Dm.T
open Go Go.Dm Go.Proofs
theorem eqTypes_int (P : Program) : EqTypes P (intErrs P) := by
  intro t ht
  have hm : t ∈ intErrs P := by simpa using ht
  have h := (List.mem_filter.1 hm).2
  cases hi : P.info? t with
  | none => simp [hi] at h
  | some i =>
    cases hu : P.underlying t with
    | none => simp [hi, hu] at h
    | some d =>
      rw [hi, hu] at h
      cases d <;> simp at h
      rename_i k
      exact ⟨i, k, rfl, h.1, rfl⟩
theorem eqs_eq : intErrs Tryz.prog = T.eqs := by kernel_rfl
theorem seatEq : EqTypes Tryz.prog T.eqs := eqs_eq ▸ eqTypes_int Tryz.prog
theorem seatMixed : Tryz.prog.follows .mixedOrders = true := by kernel_rfl
theorem seatFn : ∀ f F, fnT f = some F → ∃ fn hint, Tryz.prog.funcs[f]? = some fn ∧ cFun Tryz.prog T.eqs F.lend hint fn = some F := fun f F h => FT.get_all ok_all h
theorem good0 : Good Tryz.prog T.eqs D0 := ⟨seatEq, seatMixed, seatFn, fun f p _ h => (by cases h)⟩
theorem goodT : Good Tryz.prog T.eqs DT := by
  have h0 := callN_sound good0 20
  refine ⟨seatEq, seatMixed, seatFn, fun f p _ h => ?_⟩
  have h' : primT f = some p := h
  unfold primT at h'
  split at h'
  · rename_i e
    rw [Option.some.injEq] at h'
    subst h'
    rw [e]
    exact See.see_sound (lend := D0.lend) seatMixed h0.1 h0.2 seatEq
  split at h'
  · rename_i e
    rw [Option.some.injEq] at h'
    subst h'
    subst e
    intro f args os r os' h w O I ρ cargs hR hA hG hO
    simp only at h
    split at h
    · rename_i e; subst e; exact Ext.typeOf_snd h hR hA hO
    · cases h
  split at h'
  · rename_i e
    rw [Option.some.injEq] at h'
    subst h'
    subst e
    intro f args os r os' h w O I ρ cargs hR hA hG hO
    simp only at h
    split at h
    · rename_i e; subst e; exact Ext.comp_snd h hR hA hO
    · cases h
  · cases h'
theorem soundT (n : Nat) : CSnd Tryz.prog glT (callN DT n) := (callN_sound goodT n).1
end Go.Dm.T
set_option linter.unusedSimpArgs false
set_option linter.unusedVariables false
namespace Go.Dm
open Go

def isAgg (P : Program) (t : TypeId) : Bool := match P.underlying t with
  | some (.struct _) => true
  | some (.array _ _) => true
  | _ => false
/-- Types of truths, whole numbers, texts, and of slices, structs and arrays of these. -/
def flatB (P : Program) : Nat → TypeId → Bool
  | 0, _ => false
  | n + 1, t => match P.underlying t with
    | some .bool => P.cellsOf t == 1
    | some (.int _) => P.cellsOf t == 1
    | some .string => P.cellsOf t == 1
    | some (.slice e) => P.cellsOf t == 1 && decide (0 < P.cellsOf e) && flatB P n e
    | some (.struct fs) => P.consecB fs.toList 0 (P.cellsOf t) && fs.toList.all fun f => flatB P n f.type
    | some (.array m e) => P.cellsOf t == m * P.cellsOf e && flatB P n e
    | _ => false
def shapeFs (f : TypeId → List V → Prop) : List TypeId → List V → Prop
  | [], xs => xs = []
  | t :: ts, xs => ∃ a b, xs = a ++ b ∧ f t a ∧ shapeFs f ts b
/-- What the cells of such a type are, as abstract values. -/
def shapeC (P : Program) : Nat → TypeId → List V → Prop
  | 0, _, _ => False
  | n + 1, t, xs => match P.underlying t with
    | some .bool => ∃ b, xs = [.bool b]
    | some (.int k) => ∃ z, xs = [.int k z] ∧ (Lit.int k z).wf = true
    | some .string => ∃ l : List UInt8, xs = [.str l] ∧ l.length ≤ maxLen
    | some (.slice e) => xs = [.nils] ∨ ∃ es, xs = [.sl es (P.cellsOf e)] ∧ es.length ≤ maxLen ∧ ∀ x ∈ es, (if isAgg P e then ∃ cs, x = .agg cs else x.one = true) ∧ shapeC P n e x.cells
    | some (.struct fs) => shapeFs (shapeC P n) (fs.toList.map (·.type)) xs
    | some (.array m e) => shapeFs (shapeC P n) (List.replicate m e) xs
    | _ => False

section
variable {H : Type} {enc : TypeId × Value → H} {P : Program} {W : World} {spare : Nat → Bool} {held : Bool}
def below (W : World) : Nat → Prop := fun b => b < W.heap.size
theorem cell_spot {a : Addr} {v : Value} (h : W.cell? a = some v) : a = ⟨a.block, a.off, none⟩ ∧ a.block < W.heap.size := by
  unfold World.cell? at h
  split at h
  · rename_i c t fr hc
    split at h
    · cases h
    · rename_i hs
      refine ⟨?_, (Array.getElem?_eq_some_iff.1 hc).1⟩
      cases a with
      | mk b o s => cases s with
        | none => rfl
        | some _ => simp at hs
  · cases h
theorem add_none {a : Addr} (h : a = ⟨a.block, a.off, none⟩) (i : Nat) : a.add i = ⟨a.block, a.off + i, none⟩ := by
  unfold Addr.add
  split
  · rename_i h0; subst h0; exact h
  · rfl
theorem cells_get {base : Nat} {a : Addr} {n : Nat} {cs : List Value} (h : W.cells? base a n = some cs) : cs.length = n ∧ ∀ j v, cs[j]? = some v → W.cell? (a.add j) = some v := by
  unfold World.cells? at h
  split at h
  · refine ⟨by simpa using mapM_some_length h, fun j v hv => ?_⟩
    have hj : j < n := by
      have := (List.getElem?_eq_some_iff.1 hv).1
      have h2 := mapM_some_length h
      simp at h2; omega
    have := mapM_some_get h j j (by simp [hj])
    rw [hv] at this
    exact this
  · cases h
theorem one_of_bool {xs : List V} {b : Bool} (h : xs = [.bool b]) : flatL xs := by subst h; intro y hy; simp at hy; subst hy; rfl
theorem flat_one {x : V} (h : x.one = true) : flatL [x] := by intro y hy; simp at hy; subst hy; exact h
theorem flat_app {a b : List V} (ha : flatL a) (hb : flatL b) : flatL (a ++ b) := by
  intro y hy
  rcases List.mem_append.1 hy with h | h
  · exact ha y h
  · exact hb y h
theorem fields_shape {n m : Nat} {cs : List Value} (IH : ∀ (t : TypeId) (cs : List Value) (x : DataW H × List MemPlace), flatB P n t = true → DataW.trod enc P W 0 spare held m t cs = some x → ∃ xs, RL W (below W) rho0 cs xs ∧ flatL xs ∧ shapeC P n t xs ∧ xs.length = P.cellsOf t) :
    ∀ (fs : List Field) (off : Nat), P.consecB fs off cs.length = true → (fs.all fun f => flatB P n f.type) = true → (∀ f ∈ fs, ∃ x, DataW.trod enc P W 0 spare held m f.type ((cs.drop f.offset).take (P.cellsOf f.type)) = some x) →
      ∃ ys, RL W (below W) rho0 (cs.drop off) ys ∧ flatL ys ∧ shapeFs (shapeC P n) (fs.map (·.type)) ys
  | [], off, hc, _, _ => by
    simp only [Program.consecB, beq_iff_eq] at hc
    rw [List.drop_eq_nil_iff.2 (by omega)]
    exact ⟨[], .nil, fun y hy => by simp at hy, rfl⟩
  | f :: fs, off, hc, hf, hx => by
    simp only [Program.consecB, Bool.and_eq_true, beq_iff_eq] at hc
    simp only [List.all_cons, Bool.and_eq_true] at hf
    obtain ⟨x0, hx0⟩ := hx f (by simp)
    rw [hc.1] at hx0
    obtain ⟨a, h1, h2, h3, h4⟩ := IH f.type _ x0 hf.1 hx0
    obtain ⟨b, h5, h6, h7⟩ := fields_shape IH fs (off + P.cellsOf f.type) hc.2 hf.2 fun g hg => hx g (by simp [hg])
    have := h1.append h5
    rw [take_drop_step] at this
    exact ⟨a ++ b, this, flat_app h2 h6, a, b, rfl, h3, h7⟩
theorem array_shape {n m : Nat} {cs : List Value} {e : TypeId} (IH : ∀ (t : TypeId) (cs : List Value) (x : DataW H × List MemPlace), flatB P n t = true → DataW.trod enc P W 0 spare held m t cs = some x → ∃ xs, RL W (below W) rho0 cs xs ∧ flatL xs ∧ shapeC P n t xs ∧ xs.length = P.cellsOf t)
    (he : flatB P n e = true) : ∀ (k i : Nat), cs.length = (i + k) * P.cellsOf e → (∀ j, i ≤ j → j < i + k → ∃ x, DataW.trod enc P W 0 spare held m e ((cs.drop (j * P.cellsOf e)).take (P.cellsOf e)) = some x) →
      ∃ ys, RL W (below W) rho0 (cs.drop (i * P.cellsOf e)) ys ∧ flatL ys ∧ shapeFs (shapeC P n) (List.replicate k e) ys
  | 0, i, hl, _ => by
    rw [List.drop_eq_nil_iff.2 (by rw [hl]; simp)]
    exact ⟨[], .nil, fun y hy => by simp at hy, rfl⟩
  | k + 1, i, hl, h => by
    obtain ⟨x, hx⟩ := h i (by omega) (by omega)
    obtain ⟨a, h1, h2, h3, h4⟩ := IH e _ x he hx
    obtain ⟨b, h5, h6, h7⟩ := array_shape IH he k (i + 1) (by rw [hl]; congr 1; omega) fun j h1 h2 => h j (by omega) (by omega)
    have := h1.append h5
    rw [Nat.add_mul, Nat.one_mul, take_drop_step] at this
    exact ⟨a ++ b, this, flat_app h2 h6, a, b, rfl, h3, h7⟩
theorem one_cells {x : V} (h : x.one = true) : x.cells = [x] ∧ x.width = 1 := by cases x <;> simp_all [V.one, V.cells, V.width]
theorem slice_shape {n m : Nat} {e : TypeId} {a : Addr} (IH : ∀ (t : TypeId) (cs : List Value) (x : DataW H × List MemPlace), flatB P n t = true → DataW.trod enc P W 0 spare held m t cs = some x → ∃ xs, RL W (below W) rho0 cs xs ∧ flatL xs ∧ shapeC P n t xs ∧ xs.length = P.cellsOf t)
    (he : flatB P n e = true) (hpos : 0 < P.cellsOf e) (hone : isAgg P e = false → P.cellsOf e = 1) (ha : a = ⟨a.block, a.off, none⟩) : ∀ (len i : Nat), (∀ j, i ≤ j → j < i + len → ∃ x, ((W.cells? 0 (a.add (j * P.cellsOf e)) (P.cellsOf e)).bind (DataW.trod enc P W 0 spare held m e)) = some x) →
      ∃ (es : List V) (cs : List Value), es.length = len ∧ (∀ x ∈ es, x.width = P.cellsOf e ∧ (if isAgg P e then ∃ cs, x = .agg cs else x.one = true) ∧ shapeC P n e x.cells) ∧ flatL (cellsL es) ∧
        RL W (below W) rho0 cs (cellsL es) ∧ (∀ j v, cs[j]? = some v → W.cell? ⟨a.block, a.off + (i * P.cellsOf e + j), none⟩ = some v)
  | 0, i, h => ⟨[], [], rfl, fun x hx => by simp at hx, fun y hy => by simp [cellsL] at hy, .nil, fun j v hv => by simp at hv⟩
  | len + 1, i, h => by
    obtain ⟨x, hx⟩ := h i (by omega) (by omega)
    obtain ⟨ci, hc, hx⟩ := Option.bind_eq_some_iff.1 hx
    obtain ⟨hcl, hcell⟩ := cells_get hc
    obtain ⟨xs, h1, h2, h3, h4⟩ := IH e ci x he hx
    obtain ⟨es, cs, g1, g3, g4, g5, g6⟩ := slice_shape IH he hpos hone ha len (i + 1) fun j h1 h2 => h j (by omega) (by omega)
    have hel : ∃ y : V, y.cells = xs ∧ y.width = P.cellsOf e ∧ (if isAgg P e then ∃ cs, y = .agg cs else y.one = true) := by
      cases hag : isAgg P e with
      | true => exact ⟨.agg xs, rfl, h4, by simp⟩
      | false =>
        have hl1 := hone hag
        rw [hl1] at h4
        match xs, h4 with
        | [y], _ =>
          have hy : y.one = true := h2 y (by simp)
          exact ⟨y, (one_cells hy).1, by rw [hl1]; exact (one_cells hy).2, by simpa using hy⟩
    obtain ⟨y, y1, y2, y3⟩ := hel
    have hcs : cellsL (y :: es) = xs ++ cellsL es := by simp only [cellsL, List.flatMap_cons, y1]
    refine ⟨y :: es, ci ++ cs, by simp [g1], fun z hz => ?_, by rw [hcs]; exact flat_app h2 g4, by rw [hcs]; exact h1.append g5, fun j v hv => ?_⟩
    · rcases List.mem_cons.1 hz with rfl | hz
      · exact ⟨y2, y3, by rw [y1]; exact h3⟩
      · exact g3 z hz
    · by_cases hj : j < ci.length
      · rw [List.getElem?_append_left hj] at hv
        have := hcell j v hv
        rw [add_none ha, add_none rfl] at this
        dsimp only at this
        rw [← this]
        congr 2
        omega
      · rw [List.getElem?_append_right (by omega)] at hv
        have := g6 _ v hv
        rw [← this]
        rw [hcl, Nat.add_mul, Nat.one_mul]
        have : P.cellsOf e ≤ j := by omega
        have e1 : a.off + (i * P.cellsOf e + j) = a.off + (i * P.cellsOf e + P.cellsOf e + (j - P.cellsOf e)) := by omega
        rw [e1]
theorem flat_plain {n : Nat} {t : TypeId} (h : flatB P n t = true) (ha : isAgg P t = false) : P.cellsOf t = 1 := by
  cases n with
  | zero => simp [flatB] at h
  | succ n =>
    unfold flatB at h
    unfold isAgg at ha
    split at h <;> rename_i hu <;> simp only [hu] at ha <;> simp_all
theorem trod_shape : ∀ (m n : Nat) (t : TypeId) (cs : List Value) (x : DataW H × List MemPlace), flatB P n t = true → DataW.trod enc P W 0 spare held m t cs = some x →
    ∃ xs, RL W (below W) rho0 cs xs ∧ flatL xs ∧ shapeC P n t xs ∧ xs.length = P.cellsOf t
  | 0, _, _, _, _, _, h => by simp [DataW.trod] at h
  | m + 1, 0, _, _, _, hf, _ => by simp [flatB] at hf
  | m + 1, n + 1, t, cs, x, hf, h => by
    have IH := fun t cs x hf h => trod_shape m n t cs x hf h
    unfold flatB at hf
    unfold shapeC
    split at hf
    · rename_i hu
      simp only [beq_iff_eq] at hf
      unfold DataW.trod at h
      simp only [hu] at h
      split at h <;> simp_all
      rename_i b0
      exact ⟨[.bool b0], .bool _ .nil, flat_one rfl, by cases b0 <;> simp, rfl⟩
    · rename_i hu
      simp only [beq_iff_eq] at hf
      unfold DataW.trod at h
      simp only [hu] at h
      split at h <;> simp_all
      exact ⟨[.int _ _], .int _ _ .nil, flat_one rfl, ⟨_, rfl, h.1.2⟩, rfl⟩
    · rename_i hu
      simp only [beq_iff_eq] at hf
      unfold DataW.trod at h
      simp only [hu] at h
      split at h <;> simp_all
      rename_i s
      refine ⟨[.str s.data.toList], .str _ .nil, flat_one rfl, ⟨_, rfl, ?_⟩, rfl⟩
      simpa using h.1
    · rename_i e hu
      simp only [beq_iff_eq, Bool.and_eq_true, decide_eq_true_eq] at hf
      obtain ⟨⟨hf1, hpos⟩, hfe⟩ := hf
      rcases DataW.trod_slice hu h with ⟨rfl, _⟩ | ⟨a, len, cap, elems, rest, m', hm, rfl, _, _, hle, hcap, hel, hx, _⟩
      · exact ⟨[.nils], .nils _ .nil, flat_one rfl, .inl rfl, hf1.symm⟩
      · obtain rfl : m = m' := by omega
        have hx' : ∀ i, i < len → ∃ x, ((W.cells? 0 (a.add (i * P.cellsOf e)) (P.cellsOf e)).bind (DataW.trod enc P W 0 spare held m e)) = some x := fun i hi =>
          ⟨_, (hx i hi).trans (List.getElem?_eq_getElem (by omega))⟩
        by_cases h0 : len = 0
        · subst h0
          exact ⟨[.sl [] (P.cellsOf e)], .sl0 _ _ _ .nil, flat_one rfl, .inr ⟨[], rfl, by simp, fun x hx => by simp at hx⟩, hf1.symm⟩
        · have hspot : a = ⟨a.block, a.off, none⟩ ∧ a.block < W.heap.size := by
            obtain ⟨x, hx0⟩ := hx' 0 (by omega)
            obtain ⟨ci, hc, _⟩ := Option.bind_eq_some_iff.1 hx0
            obtain ⟨hcl, hcell⟩ := cells_get hc
            have := hcell 0 _ (List.getElem?_eq_getElem (by omega))
            have e0 : (a.add (0 * P.cellsOf e)).add 0 = a := by simp [Addr.add]
            rw [e0] at this
            exact cell_spot this
          obtain ⟨es, cs, g1, g2, g3, g4, g5⟩ := slice_shape IH hfe hpos (flat_plain hfe) hspot.1 len 0 fun j _ hj => hx' j (by omega)
          refine ⟨[.sl es (P.cellsOf e)], ?_, flat_one rfl, .inr ⟨es, rfl, by omega, fun x hx => (g2 x hx).2⟩, hf1.symm⟩
          have key := RL.sl1 (w := W) (I := below W) (ρ := rho0) (vs := []) (xs := []) a.block a.off cap (P.cellsOf e) es cs (by omega) (fun x hx => (g2 x hx).1) g3 hspot.2 (fun j v hv => by
            have := g5 j v hv
            rw [← this]; congr 2; omega) g4 .nil
          rw [g1, ← hspot.1] at key
          exact key
    · rename_i fs hu
      simp only [Bool.and_eq_true] at hf
      obtain ⟨xs, m', hm, hx, hl, hp, hi⟩ := DataW.trod_struct hu h
      obtain rfl : m = m' := by omega
      rw [← hl] at hf
      obtain ⟨ys, h1, h2, h3⟩ := fields_shape IH fs.toList 0 hf.1 hf.2 fun f hf => by
        obtain ⟨i, hi1, hi2⟩ := List.getElem_of_mem hf
        have := hi i f (by simp at hi1; simp [← hi2, hi1])
        exact ⟨_, this.trans (List.getElem?_eq_getElem (by simp at hi1; omega))⟩
      rw [List.drop_zero] at h1
      exact ⟨ys, h1, h2, h3, by rw [← h1.length, hl]⟩
    · rename_i k e hu
      simp only [Bool.and_eq_true, beq_iff_eq] at hf
      obtain ⟨xs, m', hm, hx, hl, hp, hi⟩ := DataW.trod_array hu h
      obtain rfl : m = m' := by omega
      obtain ⟨ys, h1, h2, h3⟩ := array_shape IH hf.2 k 0 (by rw [hl, hf.1]; simp) fun j _ hj => ⟨_, (hi j (by omega)).trans (List.getElem?_eq_getElem (by omega))⟩
      rw [Nat.zero_mul, List.drop_zero] at h1
      exact ⟨ys, h1, h2, h3, by rw [← h1.length, hl]⟩
    · cases hf
/-- An argument, as an abstract value. -/
def shapeV (P : Program) (n : Nat) (t : TypeId) (x : V) : Prop := (if isAgg P t then ∃ cs, x = .agg cs else x.one = true) ∧ shapeC P n t x.cells
theorem arg_shape {b n : Nat} {t : TypeId} {v : Value} {d : DataW H} {ps : List MemPlace} (hf : flatB P n t = true) (hv : Value.okWide P W .any b t v) (h : DataW.Trod enc P W 0 spare held t v d ps) :
    ∃ x, R W (below W) rho0 v x ∧ shapeV P n t x := by
  obtain ⟨m, hm⟩ := h
  obtain ⟨xs, h1, h2, h3, h4⟩ := trod_shape m n t _ _ hf hm
  cases hag : isAgg P t with
  | true =>
    have : ∃ cs, v = .agg cs := by
      unfold Value.okWide at hv
      unfold isAgg at hag
      split at hv
      · obtain ⟨cs, h, _⟩ := hv; exact ⟨cs, h⟩
      · obtain ⟨cs, h, _⟩ := hv; exact ⟨cs, h⟩
      · split at hag <;> simp_all
    obtain ⟨cs, rfl⟩ := this
    exact ⟨.agg xs, .agg _ _ h2 h1 .nil, by simp [hag], h3⟩
  | false =>
    have hone := flat_plain hf hag
    rw [hone] at h4
    match xs, h4 with
    | [y], _ =>
      have hy := h2 y (by simp)
      refine ⟨y, ?_, by simp [hag]; exact hy, by rw [(one_cells hy).1]; exact h3⟩
      have : v.cells.toList = [v] := by
        cases n with
        | zero => simp [flatB] at hf
        | succ n =>
          unfold flatB at hf
          unfold isAgg at hag
          unfold Value.okWide at hv
          split at hf <;> rename_i hu <;> simp only [hu] at hag hv
          all_goals first | (simp at hag; done) | skip
          all_goals
            cases v <;> simp_all [Cell.okWide, Cell.ok, Value.cells]
      rw [this] at h1
      exact h1
end
end Go.Dm
set_option linter.unusedSimpArgs false
set_option linter.unusedVariables false
namespace Go.Dm.T
open Go.Dm
variable {P : Program}
theorem shape_int {n : Nat} {t : TypeId} {k : IntKind} {x : V} (hu : P.underlying t = some (.int k)) (h : shapeV P (n + 1) t x) : ∃ z, x = .int k z ∧ (Lit.int k z).wf = true := by
  obtain ⟨h1, h2⟩ := h
  simp only [isAgg, hu, Bool.false_eq_true, if_false] at h1
  unfold shapeC at h2
  simp only [hu] at h2
  obtain ⟨z, h2, h3⟩ := h2
  rw [(one_cells h1).1] at h2
  simp only [List.cons.injEq, and_true] at h2
  exact ⟨z, h2, h3⟩
theorem shapeC_int {n : Nat} {t : TypeId} {k : IntKind} {xs : List V} (hu : P.underlying t = some (.int k)) (h : shapeC P (n + 1) t xs) : ∃ z, xs = [.int k z] ∧ (Lit.int k z).wf = true := by
  unfold shapeC at h
  simpa only [hu] using h
theorem shapeC_str {n : Nat} {t : TypeId} {xs : List V} (hu : P.underlying t = some .string) (h : shapeC P (n + 1) t xs) : ∃ l : List UInt8, xs = [.str l] ∧ l.length ≤ maxLen := by
  unfold shapeC at h
  simpa only [hu] using h
theorem shapeC_bool {n : Nat} {t : TypeId} {xs : List V} (hu : P.underlying t = some .bool) (h : shapeC P (n + 1) t xs) : ∃ b, xs = [.bool b] := by
  unfold shapeC at h
  simpa only [hu] using h
theorem bytes_of {n : Nat} {e : TypeId} (he : P.underlying e = some (.int .u8)) : ∀ es : List V, (∀ x ∈ es, (if isAgg P e then ∃ cs, x = .agg cs else x.one = true) ∧ shapeC P (n + 1) e x.cells) → ∃ l : List UInt8, es = bytesV l
  | [], _ => ⟨[], rfl⟩
  | x :: es, h => by
    obtain ⟨l, rfl⟩ := bytes_of he es fun y hy => h y (by simp [hy])
    obtain ⟨h1, h2⟩ := h x (by simp)
    simp only [isAgg, he, Bool.false_eq_true, if_false] at h1
    obtain ⟨z, h2, h3⟩ := shapeC_int he h2
    rw [(one_cells h1).1] at h2
    simp only [List.cons.injEq, and_true] at h2
    subst h2
    have hw : (0 : Int) ≤ z ∧ z ≤ 255 := by simpa [Lit.wf, IntKind.min, IntKind.max, IntKind.signed, IntKind.bits] using h3
    refine ⟨UInt8.ofNat z.toNat :: l, ?_⟩
    simp only [bytesV, List.map_cons, List.cons.injEq, and_true, V.int.injEq, true_and, UInt8.toNat_ofNat']
    omega
theorem shapeC_bytes {n : Nat} {t e : TypeId} {xs : List V} (hu : P.underlying t = some (.slice e)) (he : P.underlying e = some (.int .u8)) (hc : P.cellsOf e = 1) (h : shapeC P (n + 2) t xs) : ∃ v l, xs = [v] ∧ IsB v l ∧ l.length ≤ maxLen := by
  unfold shapeC at h
  simp only [hu, hc] at h
  rcases h with rfl | ⟨es, rfl, hl, h⟩
  · exact ⟨.nils, [], rfl, isB_nil, by simp⟩
  · obtain ⟨l, rfl⟩ := bytes_of he es h
    exact ⟨_, l, rfl, isB_sl l, by simpa [bytesV] using hl⟩
theorem shapeC_struct {n : Nat} {t : TypeId} {xs : List V} {fs : Array Field} {ts : List TypeId} (hu : P.underlying t = some (.struct fs)) (ht : fs.toList.map (·.type) = ts) (h : shapeC P (n + 1) t xs) : shapeFs (shapeC P n) ts xs := by
  unfold shapeC at h
  simp only [hu, ht] at h
  exact h
theorem shapeC_array {n m : Nat} {t e : TypeId} {xs : List V} (hu : P.underlying t = some (.array m e)) (h : shapeC P (n + 1) t xs) : shapeFs (shapeC P n) (List.replicate m e) xs := by
  unfold shapeC at h
  simpa only [hu] using h
theorem shapeV_agg {n : Nat} {t : TypeId} {x : V} (ha : isAgg P t = true) (h : shapeV P n t x) : ∃ cs, x = .agg cs ∧ shapeC P n t cs := by
  obtain ⟨h1, h2⟩ := h
  rw [ha, if_pos rfl] at h1
  obtain ⟨cs, rfl⟩ := h1
  exact ⟨cs, rfl, h2⟩
theorem shapeV_bytes {n : Nat} {t e : TypeId} {x : V} (hu : P.underlying t = some (.slice e)) (he : P.underlying e = some (.int .u8)) (hc : P.cellsOf e = 1) (h : shapeV P (n + 2) t x) : ∃ l, IsB x l ∧ l.length ≤ maxLen := by
  obtain ⟨h1, h2⟩ := h
  simp only [isAgg, hu, Bool.false_eq_true, if_false] at h1
  obtain ⟨v, l, h3, h4, h5⟩ := shapeC_bytes hu he hc h2
  rw [(one_cells h1).1] at h3
  simp only [List.cons.injEq, and_true] at h3
  exact ⟨l, h3 ▸ h4, h5⟩
theorem shapeV_str {n : Nat} {t : TypeId} {x : V} (hu : P.underlying t = some .string) (h : shapeV P (n + 1) t x) : ∃ l : List UInt8, x = .str l ∧ l.length ≤ maxLen := by
  obtain ⟨h1, h2⟩ := h
  simp only [isAgg, hu, Bool.false_eq_true, if_false] at h1
  obtain ⟨l, h3, h4⟩ := shapeC_str hu h2
  rw [(one_cells h1).1] at h3
  simp only [List.cons.injEq, and_true] at h3
  exact ⟨l, h3, h4⟩
theorem shapeV_bool {n : Nat} {t : TypeId} {x : V} (hu : P.underlying t = some .bool) (h : shapeV P (n + 1) t x) : ∃ b, x = .bool b := by
  obtain ⟨h1, h2⟩ := h
  simp only [isAgg, hu, Bool.false_eq_true, if_false] at h1
  obtain ⟨l, h3⟩ := shapeC_bool hu h2
  rw [(one_cells h1).1] at h3
  simp only [List.cons.injEq, and_true] at h3
  exact ⟨l, h3⟩
theorem wf64 {z : Int} (h : (Lit.int .i64 z).wf = true) : -9223372036854775808 ≤ z ∧ z ≤ 9223372036854775807 := by
  simpa [Lit.wf, IntKind.min, IntKind.max, IntKind.signed, IntKind.bits] using h
end Go.Dm.T
set_option linter.unusedSimpArgs false
set_option linter.unusedVariables false
namespace Go.Dm
open Go.ChangeShapes Go.RowKit
/-- What a law's call begins with: nothing is the call's own; what is there is written by nobody. -/
theorem rel_start (W : World) : Rel W (fun _ => False) (fun b => b < W.heap.size) (fun b => b < W.heap.size) rho0 (getO []) (fun h => h < 0) W :=
  ⟨rfl, rfl, rfl, Nat.le_refl _, fun _ _ _ => rfl, fun _ => Nat.le_refl _, fun _ h => h, fun _ h => .inl h, fun h p hp => by simp [rho0] at hp, fun h o ho => by simp [getO] at ho, fun h h' o o' b s b' s' g1 => by simp [getO] at g1⟩
theorem rel_below {W W' : World} {I0 I : Nat → Prop} {ρ : Rho} {g : Nat → Option Obj} {used : Nat → Prop} (h : Rel W (fun _ => False) I0 I ρ g used W') : Below W.heap.size W W' :=
  ⟨h.os, h.tape, h.output, h.size, fun k hk => h.frame k hk (fun h => h)⟩
theorem kept_below {W W' : World} (h : Below W.heap.size W W') (may : MemPlace → Prop) : W.keptBut W' may := by
  refine ⟨h.os, h.output, fun i hi => ?_⟩
  rw [h.block i hi]
  cases W.heap[i]? with
  | none => rfl
  | some o => cases o <;> simp

theorem slice_val {P : Program} {W : World} {b : Nat} {t e : TypeId} {v : Value} (ht : P.underlying t = some (.slice e)) (hv : Value.okWide P W .any b t v) : v.cells.toList = [v] := by
  unfold Value.okWide at hv
  simp only [ht] at hv
  unfold Cell.okWide at hv
  simp only [ht] at hv
  unfold Cell.ok at hv
  simp only [ht] at hv
  cases v <;> simp_all [Value.cells]
theorem rl_ints {w : World} {I : Nat → Prop} {ρ : Rho} (k : IntKind) : ∀ zs : List Int, RL w I ρ (zs.map fun z => Value.int k z) (zs.map fun z => V.int k z)
  | [] => RL.nil
  | z :: zs => RL.int k z (rl_ints k zs)
theorem flat_ints {α : Type} (k : IntKind) (f : α → Int) (l : List α) : flatL (l.map fun z => V.int k (f z)) := by
  intro y hy
  obtain ⟨z, _, rfl⟩ := List.mem_map.1 hy
  rfl

inductive Shapes (P : Program) (n : Nat) : List TypeId → List V → Prop
  | nil : Shapes P n [] []
  | cons {t : TypeId} {x : V} {ts : List TypeId} {xs : List V} : shapeV P n t x → Shapes P n ts xs → Shapes P n (t :: ts) (x :: xs)
theorem Shapes.cons_inv {P : Program} {n : Nat} {t : TypeId} {ts : List TypeId} {ys : List V} (h : Shapes P n (t :: ts) ys) : ∃ x xs, ys = x :: xs ∧ shapeV P n t x ∧ Shapes P n ts xs := by
  cases h with
  | cons h1 h2 => exact ⟨_, _, rfl, h1, h2⟩
theorem Shapes.nil_inv {P : Program} {n : Nat} {ys : List V} (h : Shapes P n [] ys) : ys = [] := by cases h; rfl
section
variable {H : Type} {enc : TypeId × Value → H} {P : Program} {W : World}
theorem args_shape {n base : Nat} : ∀ (ts : List TypeId) (vs : List Value) (ds : List (DataW H)) (p : List MemPlace), DataW.TrodAll enc P W 0 (fun _ => true) true ts vs ds p → (∀ t ∈ ts, flatB P n t = true) →
    (∀ (j : Nat) t v, ts[j]? = some t → vs[j]? = some v → Value.okWide P W .any base t v) → ds.length = ts.length ∧ ∃ xs, RL W (below W) rho0 vs xs ∧ Shapes P n ts xs
  | [], [], [], p, _, _, _ => ⟨rfl, [], .nil, .nil⟩
  | t :: ts, v :: vs, d :: ds, p, h, hf, hv => by
    obtain ⟨p0, q, h1, h2, _⟩ := h
    obtain ⟨x, hx, hs⟩ := arg_shape (n := n) (hf t (by simp)) (hv 0 t v rfl rfl) h1
    obtain ⟨hl, xs, hxs, hss⟩ := args_shape ts vs ds q h2 (fun t ht => hf t (by simp [ht])) fun j t v ht hv' => hv (j + 1) t v (by simpa using ht) (by simpa using hv')
    exact ⟨by simp [hl], x :: xs, RL.cons hx hxs, .cons hs hss⟩
  | [], v :: vs, ds, p, h, _, _ => by cases ds <;> simp [DataW.TrodAll] at h
  | [], [], d :: ds, p, h, _, _ => by simp [DataW.TrodAll] at h
  | t :: ts, [], ds, p, h, _, _ => by cases ds <;> simp [DataW.TrodAll] at h
  | t :: ts, v :: vs, [], p, h, _, _ => by simp [DataW.TrodAll] at h
theorem args_stay (hl : laidOutB P = true) {W' : World} (hb : Below W.heap.size W W') : ∀ (ts : List TypeId) (vs : List Value) (ds : List (DataW H)) (p : List MemPlace), (∀ t ∈ ts, P.readableRec t = true ∧ t < P.types.size) →
    DataW.TrodAll enc P W 0 (fun _ => true) true ts vs ds p → (∀ x ∈ p, x.block < W.heap.size) → DataW.TrodAll enc P W' 0 (fun b => decide (b < W.heap.size)) true ts vs ds p
  | [], [], [], p, _, h, _ => h
  | t :: ts, v :: vs, d :: ds, p, hf, h, hlt => by
    obtain ⟨p0, q, h1, h2, rfl⟩ := h
    exact ⟨p0, q, Below.trod hl (hf t (by simp)).1 (hf t (by simp)).2 h1 hb fun x hx => hlt x (by simp [hx]), args_stay hl hb ts vs ds q (fun t ht => hf t (by simp [ht])) h2 fun x hx => hlt x (by simp [hx]), rfl⟩
  | [], v :: vs, ds, p, _, h, _ => by cases ds <;> simp [DataW.TrodAll] at h
  | [], [], d :: ds, p, _, h, _ => by simp [DataW.TrodAll] at h
  | t :: ts, [], ds, p, _, h, _ => by cases ds <;> simp [DataW.TrodAll] at h
  | t :: ts, v :: vs, [], p, _, h, _ => by simp [DataW.TrodAll] at h
end
end Go.Dm
namespace Go.Proofs.YtllfbfkjbhpfeaaGreatDoor
open Go.ChangeShapes Go.WideShapes Go.ChangeAt Go.RowKit Go.Dm

theorem own : ownKnob Tryz.prog.godebug = none := by kernel_rfl
theorem laidOut : laidOutB Tryz.prog = true := by kernel_rfl
theorem g1N : Tryz.prog.globalNamed "internal/strconv.uint64pow10" = some 1 := by kernel_rfl
theorem g2N : Tryz.prog.globalNamed "seneschal/sha.constants" = some 2 := by kernel_rfl
theorem g1T : (Tryz.prog.globals[1]?).map (·.type) = some 273 := by kernel_rfl
theorem g2T : (Tryz.prog.globals[2]?).map (·.type) = some 282 := by kernel_rfl
theorem c126 : Tryz.prog.cellsOf 126 = 1 := by kernel_rfl
theorem c267 : Tryz.prog.cellsOf 267 = 1 := by kernel_rfl
theorem c273 : Tryz.prog.cellsOf 273 = 20 := by kernel_rfl
theorem c282 : Tryz.prog.cellsOf 282 = 64 := by kernel_rfl
theorem c5 : Tryz.prog.cellsOf 5 = 1 := by kernel_rfl
def pow10 : List Int := (List.range 20).map fun i => ((10 ^ i : Nat) : Int)
def shaC : List Int := T.shaK.map fun x => (x.toNat : Int)
theorem pow_eq {H : Type} : (Rows.laid_internal_strconv_uint64pow10 : DataW H) = Lib.tabData .u64 pow10 := by kernel_rfl
theorem sha_eq {H : Type} : (Rows.laid_seneschal_sha_constants : DataW H) = Lib.tabData .u32 shaC := by kernel_rfl
theorem laid_split {W : World} (h : laidMetH Tryz.prog Rows.tgsVoidRow.laid W) : laidMet Tryz.prog [("math/bits.deBruijn32tab", Rows.laid_math_bits_deBruijn32tab), ("math/bits.deBruijn64tab", Rows.laid_math_bits_deBruijn64tab), ("internal/strconv.uint64pow10", Rows.laid_internal_strconv_uint64pow10), ("seneschal/sha.constants", Rows.laid_seneschal_sha_constants)] W := by
  have e1 : (Rows.tgsVoidRow.laid.filter fun x => x.2.handleName?.isSome) = [("errors.errorType", Rows.laid_errors_errorType)] := by kernel_rfl
  have e2 : (Rows.tgsVoidRow.laid.filter fun x => x.2.handleName?.isNone) = [("math/bits.deBruijn32tab", Rows.laid_math_bits_deBruijn32tab), ("math/bits.deBruijn64tab", Rows.laid_math_bits_deBruijn64tab), ("internal/strconv.uint64pow10", Rows.laid_internal_strconv_uint64pow10), ("seneschal/sha.constants", Rows.laid_seneschal_sha_constants)] := by kernel_rfl
  unfold laidMetH at h
  rw [e1, e2] at h
  exact h.1
theorem tabs {W : World} (h : laidMetH Tryz.prog Rows.tgsVoidRow.laid W) : Lib.TabIs Tryz.prog W "internal/strconv.uint64pow10" .u64 pow10 ∧ Lib.TabIs Tryz.prog W "seneschal/sha.constants" .u32 shaC := by
  have h1 := (laid_split h).tail.tail
  have h2 := h1.tail
  rw [pow_eq] at h1
  rw [sha_eq] at h2
  exact ⟨Lib.tabIs_of_head g1N g1T Tryz.underlying273 Tryz.underlying126 c126 c273 h1, Lib.tabIs_of_head g2N g2T Tryz.underlying282 Tryz.underlying267 c267 c282 h2⟩
theorem tab_gl {W : World} {name : String} {k : IntKind} {zs : List Int} {g : Nat} (h : Lib.TabIs Tryz.prog W name k zs) (hg : Tryz.prog.globalNamed name = some g) (hz : 0 < zs.length) :
    g < W.heap.size ∧ flatL (zs.map fun z => V.int k z) ∧ ∃ vs, At W g 0 vs ∧ RL W (below W) rho0 vs (zs.map fun z => V.int k z) := by
  have hc := fun i hi => Lib.TabIs.cell h hg i hi
  refine ⟨?_, flat_ints k (fun z => z) zs, zs.map fun z => Value.int k z, fun j v hv => ?_, rl_ints k zs⟩
  · have := hc 0 hz
    rcases Nat.lt_or_ge g W.heap.size with h | h
    · exact h
    · simp [World.cell?, Array.getElem?_eq_none h] at this
  · simp only [List.getElem?_map, Option.map_eq_some_iff] at hv
    obtain ⟨z, hz, rfl⟩ := hv
    have hj := (List.getElem?_eq_some_iff.1 hz).1
    rw [Nat.zero_add, hc j hj, List.getD_eq_getElem?_getD, hz]; rfl
theorem gl1 : T.glT 1 = some (pow10.map fun z => V.int .u64 z) := by kernel_rfl
theorem gl2 : T.glT 2 = some (shaC.map fun z => V.int .u32 z) := by kernel_rfl
theorem globals {W : World} (h : laidMetH Tryz.prog Rows.tgsVoidRow.laid W) : GlR W (fun b => b < W.heap.size) T.glT := by
  intro gi cs hg
  obtain ⟨h1, h2⟩ := tabs h
  by_cases e2 : gi = 2
  · subst e2
    rw [gl2] at hg
    cases hg
    exact tab_gl h2 g2N (by rw [show shaC.length = 64 by kernel_rfl]; decide)
  by_cases e1 : gi = 1
  · subst e1
    rw [gl1] at hg
    cases hg
    exact tab_gl h1 g1N (by rw [show pow10.length = 20 by kernel_rfl]; decide)
  · unfold T.glT at hg
    rw [if_neg e2, if_neg e1] at hg
    cases hg


set_option maxRecDepth 100000 in
/-- WHAT A LAW'S CALL DOES, FOR EVERY ARGUMENT AND EVERY WORLD THAT HOLDS THE TABLES. -/
theorem contract_gen (f : FuncId) (fn : Func) (spec : ChangeSpec) (n k : Nat) (tb : TypeId) (hb : Tryz.prog.underlying tb = some .bool) (hres : fn.resultTypes = #[tb])
    (hvars : spec.vars = []) (hspec : ∀ (H : Type) (ds : List (DataW H)), ds.length = fn.params.toList.length → spec.fn H ds = { results := [.lit (.bool true)], args := ds })
    (hflat : ∀ t ∈ fn.params.toList, flatB Tryz.prog k t = true ∧ Tryz.prog.readableRec t = true ∧ t < Tryz.prog.types.size)
    (hE : Ent Tryz.prog f) (habs : ∀ xs, Shapes Tryz.prog k fn.params.toList xs → callN T.DT n f xs [] = some (.bool true, []))
    (H : Type) (enc : TypeId × Value → H) (W : World) (base : Nat) (args : Array Value) (ds gs : List (DataW H)) (before : List MemPlace)
    (hval : ∀ (j : Nat) t v, fn.params[j]? = some t → args[j]? = some v → Value.okWide Tryz.prog W .any base t v)
    (hW : DataW.Whole enc Tryz.prog fn.params.toList spec.vars false W args.toList ds gs before) (hL : laidMetH Tryz.prog Rows.tgsVoidRow.laid W) :
    Calls Tryz.prog f args W fun e W' => ∃ v, e = .returned v ∧ spec.post enc Tryz.prog fn false true false false W args v W' := by
  have hW' := hW
  have hlt := hW.lt
  obtain ⟨p, q, hA, hV, rfl, hfz, hnd⟩ := hW
  rw [hvars] at hV
  obtain ⟨rfl, rfl⟩ := trodVars_none hV
  obtain ⟨hlen, xs, hxs, hshape⟩ := args_shape (n := k) (base := base) _ _ _ _ hA (fun t ht => (hflat t ht).1) fun j t v ht hv => hval j t v (by simpa using ht) (by simpa using hv)
  obtain ⟨_, hcall⟩ := T.soundT n f xs [] (.bool true) [] (habs xs hshape) W (fun _ => False) (fun b => b < W.heap.size) rho0 args (rel_start W) hxs (globals hL) (fun p hp => by cases hp)
  refine (hcall.calls hE).mono fun e W' he => ?_
  obtain ⟨rv, I', ρ', rfl, hrv, hrel, _⟩ := he
  have hbel := rel_below hrel
  have hrv' : rv = .bool true := inv_bool hrv
  subst hrv'
  refine ⟨_, rfl, ds, [], p ++ [], [], p, [], hW', ?_, ?_, ?_, kept_below hbel _, fun h => by cases h⟩
  · rw [List.append_nil, hspec H ds hlen, hres]
    exact trodAll_mk1 (shut_bool hb true)
  · rw [List.append_nil, hspec H ds hlen]
    exact args_stay laidOut hbel _ _ _ _ (fun t ht => (hflat t ht).2) hA fun x hx => hlt x (by simp [hx])
  · rw [List.append_nil, hspec H ds hlen, hvars]
    rfl
def tab32 : List Int := [0, 1, 28, 2, 29, 14, 24, 3, 30, 22, 20, 15, 25, 17, 4, 8, 31, 27, 13, 23, 21, 19, 16, 7, 26, 12, 18, 6, 11, 5, 10, 9]
def tab64 : List Int := [0, 1, 56, 2, 57, 49, 28, 3, 61, 58, 42, 50, 38, 29, 17, 4, 62, 47, 59, 36, 45, 43, 51, 22, 53, 39, 33, 30, 24, 18, 12, 5, 63, 55, 48, 27, 60, 41, 37, 16, 46, 35, 44, 21, 52, 32, 23, 11, 54, 26, 40, 15, 34, 20, 31, 10, 25, 14, 19, 9, 13, 8, 7, 6]
/-- A world for the witness: the settled one, the variables holding what their initialisers lay. -/
noncomputable def laidWorld (os : Os) : World :=
  { World.holding Tryz.prog os ⟨#[], #[], []⟩ with heap := ((((((World.holding Tryz.prog os ⟨#[], #[], []⟩).heap.modify 0 fun
      | .cells _ t frozen => .cells #[.iface 199 (.agg #[.pointer (some ⟨5, 113, none⟩)])] t frozen
      | o => o).modify 1 fun
      | .cells _ t frozen => .cells (pow10.map fun z => Value.int .u64 z).toArray t frozen
      | o => o).modify 2 fun
      | .cells _ t frozen => .cells (shaC.map fun z => Value.int .u32 z).toArray t frozen
      | o => o).modify 3 fun
      | .cells _ t frozen => .cells (tab32.map fun z => Value.int .u8 z).toArray t frozen
      | o => o).modify 4 fun
      | .cells _ t frozen => .cells (tab64.map fun z => Value.int .u8 z).toArray t frozen
      | o => o) }
end Go.Proofs.YtllfbfkjbhpfeaaGreatDoor
