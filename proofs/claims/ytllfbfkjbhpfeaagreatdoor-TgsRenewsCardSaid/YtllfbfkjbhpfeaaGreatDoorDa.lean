/- The abstract machine's values, its operations, and that each operation is sound. -/
import Derived.Calls
import Derived.Laws.AppendOwn
import Derived.Laws.IdiomCopy
import Derived.Laws.Strings
import Derived.Laws.Cells
import Derived.Laws.Unary
import Derived.Laws.Slices
import Derived.Laws.BytesArg
import Derived.Laws.MakeOwn
import Derived.Lib.ConvBytes
import Derived.Lib.AppendStr
import Derived.Laws.StructEq
import Derived.ChangeKeysEq
import Derived.MapKept
set_option linter.unusedSimpArgs false
set_option linter.unusedVariables false
set_option linter.unusedSectionVars false
namespace Go.Dm

/-- Values of the abstract machine: handles name what the call owns; 'sl', 'pt' are memory that nobody writes. -/
inductive V where
  | undef
  | bool (b : Bool)
  | int (k : IntKind) (n : Int)
  | str (l : List UInt8)
  | nilp | nils | nilm | nili | nilf
  | iface (t : TypeId) (v : V)
  | agg (cs : List V)
  | tup (vs : List V)
  | sl (es : List V) (s : Nat)
  | pt (cs : List V)
  | hs (h off len : Nat)
  | hp (h i f : Nat)
  | hm (h : Nat)
  | gp (g off : Nat)
  | fn (f : FuncId) (caps : List V)
  deriving Inhabited

def V.width : V → Nat
  | .agg cs => cs.length
  | _ => 1
def V.cells : V → List V
  | .agg cs => cs
  | v => [v]
def cellsL (es : List V) : List V := es.flatMap V.cells

/-- A value of one cell. -/
def V.one : V → Bool
  | .undef | .agg _ | .tup _ => false
  | _ => true
/-- A value that can be stored. -/
def V.sto : V → Bool
  | .undef | .tup _ => false
  | _ => true
def flatL (xs : List V) : Prop := ∀ y ∈ xs, y.one = true

abbrev Rho := Nat → Option (Nat × Nat)
def rho0 : Rho := fun _ => none

def csize (w : World) (b : Nat) : Nat :=
  match w.heap[b]? with
  | some (.cells c _ _) => c.size
  | _ => 0

/-- What a list of Go values is, as abstract ones: in a world, by a set of blocks that nobody writes, by the handles' blocks. -/
inductive RL (w : World) (I : Nat → Prop) : Rho → List Value → List V → Prop
  | nil {ρ} : RL w I ρ [] []
  | undef {ρ vs xs} (v : Value) : RL w I ρ vs xs → RL w I ρ (v :: vs) (.undef :: xs)
  | bool {ρ vs xs} (b : Bool) : RL w I ρ vs xs → RL w I ρ (.bool b :: vs) (.bool b :: xs)
  | int {ρ vs xs} (k : IntKind) (n : Int) : RL w I ρ vs xs → RL w I ρ (.int k n :: vs) (.int k n :: xs)
  | str {ρ vs xs} (l : List UInt8) : RL w I ρ vs xs → RL w I ρ (.string ⟨l.toArray⟩ :: vs) (.str l :: xs)
  | nilp {ρ vs xs} : RL w I ρ vs xs → RL w I ρ (.pointer none :: vs) (.nilp :: xs)
  | nils {ρ vs xs} (a : Option Addr) : RL w I ρ vs xs → RL w I ρ (.slice a 0 0 :: vs) (.nils :: xs)
  | nilm {ρ vs xs} : RL w I ρ vs xs → RL w I ρ (.map none :: vs) (.nilm :: xs)
  | nili {ρ vs xs} : RL w I ρ vs xs → RL w I ρ (.nilIface :: vs) (.nili :: xs)
  | nilf {ρ vs xs} : RL w I ρ vs xs → RL w I ρ (.nilFunc :: vs) (.nilf :: xs)
  | iface {ρ vs xs} (t : TypeId) (v : Value) (x : V) : RL w I ρ [v] [x] → RL w I ρ vs xs → RL w I ρ (.iface t v :: vs) (.iface t x :: xs)
  | agg {ρ vs xs} (a : Array Value) (ys : List V) : flatL ys → RL w I ρ a.toList ys → RL w I ρ vs xs → RL w I ρ (.agg a :: vs) (.agg ys :: xs)
  | tup {ρ vs xs} (a : Array Value) (ys : List V) : RL w I ρ a.toList ys → RL w I ρ vs xs → RL w I ρ (.tuple a :: vs) (.tup ys :: xs)
  | sl0 {ρ vs xs} (a : Option Addr) (cap s : Nat) : RL w I ρ vs xs → RL w I ρ (.slice a 0 cap :: vs) (.sl [] s :: xs)
  | sl1 {ρ vs xs} (b o cap s : Nat) (es : List V) (cs : List Value) : es.length ≤ cap → (∀ e ∈ es, e.width = s) → flatL (cellsL es) → I b → (∀ (j : Nat) (v : Value), cs[j]? = some v → w.cell? ⟨b, o + j, none⟩ = some v) →
      RL w I rho0 cs (cellsL es) → RL w I ρ vs xs → RL w I ρ (.slice (some ⟨b, o, none⟩) es.length cap :: vs) (.sl es s :: xs)
  | pt {ρ vs xs} (b o : Nat) (ys : List V) (cs : List Value) : flatL ys → I b → (∀ (j : Nat) (v : Value), cs[j]? = some v → w.cell? ⟨b, o + j, none⟩ = some v) →
      RL w I rho0 cs ys → RL w I ρ vs xs → RL w I ρ (.pointer (some ⟨b, o, none⟩) :: vs) (.pt ys :: xs)
  | hs {ρ vs xs} (h off len b s cap : Nat) : ρ h = some (b, s) → len ≤ cap → (off + cap) * s ≤ csize w b → RL w I ρ vs xs →
      RL w I ρ (.slice (some ⟨b, off * s, none⟩) len cap :: vs) (.hs h off len :: xs)
  | hs0 {ρ vs xs} (a : Option Addr) (h off b s : Nat) : ρ h = some (b, s) → RL w I ρ vs xs → RL w I ρ (.slice a 0 0 :: vs) (.hs h off 0 :: xs)
  | hp {ρ vs xs} (h i f b s : Nat) : ρ h = some (b, s) → RL w I ρ vs xs → RL w I ρ (.pointer (some ⟨b, i * s + f, none⟩) :: vs) (.hp h i f :: xs)
  | hm {ρ vs xs} (h b s : Nat) : ρ h = some (b, s) → RL w I ρ vs xs → RL w I ρ (.map (some b) :: vs) (.hm h :: xs)
  | gp {ρ vs xs} (g off : Nat) : RL w I ρ vs xs → RL w I ρ (.pointer (some ⟨g, off, none⟩) :: vs) (.gp g off :: xs)
  | fn {ρ vs xs} (f : FuncId) (a : Array Value) (ys : List V) : RL w I ρ a.toList ys → RL w I ρ vs xs → RL w I ρ (.func (.func f) #[] a :: vs) (.fn f ys :: xs)

abbrev R (w : World) (I : Nat → Prop) (ρ : Rho) (v : Value) (x : V) : Prop := RL w I ρ [v] [x]

section
variable {w w' : World} {I I' : Nat → Prop} {ρ ρ' : Rho}

theorem RL.cons_split {v : Value} {vs : List Value} {x : V} {xs : List V} (h : RL w I ρ (v :: vs) (x :: xs)) : R w I ρ v x ∧ RL w I ρ vs xs := by
  cases h with
  | undef _ h => exact ⟨.undef _ .nil, h⟩
  | bool _ h => exact ⟨.bool _ .nil, h⟩
  | int _ _ h => exact ⟨.int _ _ .nil, h⟩
  | str _ h => exact ⟨.str _ .nil, h⟩
  | nilp h => exact ⟨.nilp .nil, h⟩
  | nils _ h => exact ⟨.nils _ .nil, h⟩
  | nilm h => exact ⟨.nilm .nil, h⟩
  | nili h => exact ⟨.nili .nil, h⟩
  | nilf h => exact ⟨.nilf .nil, h⟩
  | iface _ _ _ h1 h => exact ⟨.iface _ _ _ h1 .nil, h⟩
  | agg _ _ h0 h1 h => exact ⟨.agg _ _ h0 h1 .nil, h⟩
  | tup _ _ h1 h => exact ⟨.tup _ _ h1 .nil, h⟩
  | sl0 _ _ _ h => exact ⟨.sl0 _ _ _ .nil, h⟩
  | sl1 _ _ _ _ _ _ hc h1 h0 h2 h3 h4 h => exact ⟨.sl1 _ _ _ _ _ _ hc h1 h0 h2 h3 h4 .nil, h⟩
  | pt _ _ _ _ h0 h1 h2 h3 h => exact ⟨.pt _ _ _ _ h0 h1 h2 h3 .nil, h⟩
  | hs _ _ _ _ _ _ h1 h2 h3 h => exact ⟨.hs _ _ _ _ _ _ h1 h2 h3 .nil, h⟩
  | hs0 _ _ _ _ _ h1 h => exact ⟨.hs0 _ _ _ _ _ h1 .nil, h⟩
  | hp _ _ _ _ _ h1 h => exact ⟨.hp _ _ _ _ _ h1 .nil, h⟩
  | hm _ _ _ h1 h => exact ⟨.hm _ _ _ h1 .nil, h⟩
  | gp _ _ h => exact ⟨.gp _ _ .nil, h⟩
  | fn _ _ _ h1 h => exact ⟨.fn _ _ _ h1 .nil, h⟩

theorem RL.cons {v : Value} {vs : List Value} {x : V} {xs : List V} (h1 : R w I ρ v x) (h2 : RL w I ρ vs xs) : RL w I ρ (v :: vs) (x :: xs) := by
  cases h1 with
  | undef _ _ => exact .undef _ h2
  | bool _ _ => exact .bool _ h2
  | int _ _ _ => exact .int _ _ h2
  | str _ _ => exact .str _ h2
  | nilp _ => exact .nilp h2
  | nils _ _ => exact .nils _ h2
  | nilm _ => exact .nilm h2
  | nili _ => exact .nili h2
  | nilf _ => exact .nilf h2
  | iface _ _ _ h1 _ => exact .iface _ _ _ h1 h2
  | agg _ _ h0 h1 _ => exact .agg _ _ h0 h1 h2
  | tup _ _ h1 _ => exact .tup _ _ h1 h2
  | sl0 _ _ _ _ => exact .sl0 _ _ _ h2
  | sl1 _ _ _ _ _ _ gc g1 g0 g2 g3 g4 _ => exact .sl1 _ _ _ _ _ _ gc g1 g0 g2 g3 g4 h2
  | pt _ _ _ _ g0 g1 g2 g3 _ => exact .pt _ _ _ _ g0 g1 g2 g3 h2
  | hs _ _ _ _ _ _ g1 g2 g3 _ => exact .hs _ _ _ _ _ _ g1 g2 g3 h2
  | hs0 _ _ _ _ _ g1 _ => exact .hs0 _ _ _ _ _ g1 h2
  | hp _ _ _ _ _ g1 _ => exact .hp _ _ _ _ _ g1 h2
  | hm _ _ _ g1 _ => exact .hm _ _ _ g1 h2
  | gp _ _ _ => exact .gp _ _ h2
  | fn _ _ _ g1 _ => exact .fn _ _ _ g1 h2

theorem RL.length {vs : List Value} {xs : List V} (h : RL w I ρ vs xs) : vs.length = xs.length := by
  induction vs generalizing xs with
  | nil => cases h; rfl
  | cons v vs ih =>
    cases xs with
    | nil => cases h
    | cons x xs => simp [ih h.cons_split.2]

theorem RL.nil_iff {vs : List Value} : RL w I ρ vs [] ↔ vs = [] := ⟨fun h => by cases h; rfl, fun h => h ▸ .nil⟩

theorem RL.append {vs us : List Value} {xs ys : List V} (h : RL w I ρ vs xs) (h' : RL w I ρ us ys) : RL w I ρ (vs ++ us) (xs ++ ys) := by
  induction vs generalizing xs with
  | nil => cases h; exact h'
  | cons v vs ih =>
    cases xs with
    | nil => cases h
    | cons x xs => exact .cons h.cons_split.1 (ih h.cons_split.2)

theorem RL.get {vs : List Value} {xs : List V} (h : RL w I ρ vs xs) {j : Nat} {x : V} (hx : xs[j]? = some x) : ∃ v, vs[j]? = some v ∧ R w I ρ v x := by
  induction vs generalizing xs j with
  | nil => cases h; simp at hx
  | cons v vs ih =>
    cases xs with
    | nil => cases h
    | cons y xs =>
      cases j with
      | zero => simp at hx; subst hx; exact ⟨v, rfl, h.cons_split.1⟩
      | succ j => exact ih h.cons_split.2 (by simpa using hx)

theorem RL.take {vs : List Value} {xs : List V} (h : RL w I ρ vs xs) (n : Nat) : RL w I ρ (vs.take n) (xs.take n) := by
  induction vs generalizing xs n with
  | nil => cases h; simp; exact .nil
  | cons v vs ih =>
    cases xs with
    | nil => cases h
    | cons y xs =>
      cases n with
      | zero => simp; exact .nil
      | succ n => simp; exact .cons h.cons_split.1 (ih h.cons_split.2 n)

theorem RL.drop {vs : List Value} {xs : List V} (h : RL w I ρ vs xs) (n : Nat) : RL w I ρ (vs.drop n) (xs.drop n) := by
  induction n generalizing vs xs with
  | zero => simpa using h
  | succ n ih =>
    cases vs with
    | nil => cases h; simp; exact .nil
    | cons v vs =>
      cases xs with
      | nil => cases h
      | cons y xs => simpa using ih h.cons_split.2

theorem RL.of_get {vs : List Value} {xs : List V} (hl : vs.length = xs.length) (h : ∀ (j : Nat) (v : Value) (x : V), vs[j]? = some v → xs[j]? = some x → R w I ρ v x) : RL w I ρ vs xs := by
  induction vs generalizing xs with
  | nil => cases xs with
    | nil => exact .nil
    | cons => simp at hl
  | cons v vs ih =>
    cases xs with
    | nil => simp at hl
    | cons x xs => exact .cons (h 0 v x rfl rfl) (ih (by simpa using hl) fun j v' x' hv hx => h (j + 1) v' x' (by simpa using hv) (by simpa using hx))

theorem RL.set {vs : List Value} {xs : List V} (h : RL w I ρ vs xs) {v : Value} {x : V} (hr : R w I ρ v x) (n : Nat) : RL w I ρ (vs.set n v) (xs.set n x) := by
  induction vs generalizing xs n with
  | nil => cases h; simp; exact .nil
  | cons u vs ih =>
    cases xs with
    | nil => cases h
    | cons y xs =>
      cases n with
      | zero => simp; exact .cons hr h.cons_split.2
      | succ n => simp; exact .cons h.cons_split.1 (ih h.cons_split.2 n)

/-- The reading goes on to hold in a later world, with more blocks that nobody writes, and with more handles. -/
theorem RL.mono {vs : List Value} {xs : List V} (h : RL w I ρ vs xs) : ∀ {ρ'}, (∀ b, I b → w'.heap[b]? = w.heap[b]?) → (∀ b, csize w b ≤ csize w' b) → (∀ b, I b → I' b) →
    (∀ h p, ρ h = some p → ρ' h = some p) → RL w' I' ρ' vs xs := by
  induction h with
  | nil => intros; exact .nil
  | undef _ _ ih => intro _ a b c d; exact .undef _ (ih a b c d)
  | bool _ _ ih => intro _ a b c d; exact .bool _ (ih a b c d)
  | int _ _ _ ih => intro _ a b c d; exact .int _ _ (ih a b c d)
  | str _ _ ih => intro _ a b c d; exact .str _ (ih a b c d)
  | nilp _ ih => intro _ a b c d; exact .nilp (ih a b c d)
  | nils _ _ ih => intro _ a b c d; exact .nils _ (ih a b c d)
  | nilm _ ih => intro _ a b c d; exact .nilm (ih a b c d)
  | nili _ ih => intro _ a b c d; exact .nili (ih a b c d)
  | nilf _ ih => intro _ a b c d; exact .nilf (ih a b c d)
  | iface _ _ _ _ _ ih1 ih => intro _ a b c d; exact .iface _ _ _ (ih1 a b c d) (ih a b c d)
  | agg _ _ h0 _ _ ih1 ih => intro _ a b c d; exact .agg _ _ h0 (ih1 a b c d) (ih a b c d)
  | tup _ _ _ _ ih1 ih => intro _ a b c d; exact .tup _ _ (ih1 a b c d) (ih a b c d)
  | sl0 _ _ _ _ ih => intro _ a b c d; exact .sl0 _ _ _ (ih a b c d)
  | sl1 b0 o _ _ _ cs hc h1 h0 h2 h3 _ _ ih1 ih =>
    intro _ a b c d
    refine .sl1 _ _ _ _ _ cs hc h1 h0 (c _ h2) (fun j v hv => ?_) (ih1 a b c (fun h p hp => by simp [rho0] at hp)) (ih a b c d)
    rw [← h3 j v hv]
    simp only [World.cell?, a _ h2]
  | pt b0 o _ cs h0 h1 h2 _ _ ih1 ih =>
    intro _ a b c d
    refine .pt _ _ _ cs h0 (c _ h1) (fun j v hv => ?_) (ih1 a b c (fun h p hp => by simp [rho0] at hp)) (ih a b c d)
    rw [← h2 j v hv]
    simp only [World.cell?, a _ h1]
  | hs _ _ _ b0 _ _ h1 h2 h3 _ ih => intro _ a b c d; exact .hs _ _ _ _ _ _ (d _ _ h1) h2 (Nat.le_trans h3 (b b0)) (ih a b c d)
  | hs0 _ _ _ _ _ h1 _ ih => intro _ a b c d; exact .hs0 _ _ _ _ _ (d _ _ h1) (ih a b c d)
  | hp _ _ _ _ _ h1 _ ih => intro _ a b c d; exact .hp _ _ _ _ _ (d _ _ h1) (ih a b c d)
  | hm _ _ _ h1 _ ih => intro _ a b c d; exact .hm _ _ _ (d _ _ h1) (ih a b c d)
  | gp _ _ _ ih => intro _ a b c d; exact .gp _ _ (ih a b c d)
  | fn _ _ _ _ _ ih1 ih => intro _ a b c d; exact .fn _ _ _ (ih1 a b c d) (ih a b c d)
end
end Go.Dm
namespace Go.Dm

/-- A world with one block another. -/
def put (w : World) (b : Nat) (o : Go.Obj) : World := { w with heap := w.heap.setIfInBounds b o }
theorem put_get {w : World} {b : Nat} {o : Go.Obj} (h : b < w.heap.size) : (put w b o).heap[b]? = some o := by simp [put, h]
theorem put_other {w : World} {b c : Nat} {o : Go.Obj} (h : c ≠ b) : (put w b o).heap[c]? = w.heap[c]? := by
  simp only [put]
  exact Array.getElem?_setIfInBounds_ne (Ne.symm h)
theorem put_size (w : World) (b : Nat) (o : Go.Obj) : (put w b o).heap.size = w.heap.size := by simp [put]

def spliceL {α : Type} (cs : List α) (o : Nat) (vs : List α) : List α := cs.take o ++ vs ++ cs.drop (o + vs.length)
theorem spliceL_nil {α : Type} (cs : List α) (o : Nat) : spliceL cs o [] = cs := by simp [spliceL]
theorem spliceL_cons {α : Type} (cs : List α) (o : Nat) (v : α) (vs : List α) (h : o < cs.length) : spliceL (cs.set o v) (o + 1) vs = spliceL cs o (v :: vs) := by
  apply List.ext_getElem?
  intro j
  simp only [spliceL, List.getElem?_append, List.length_append, List.length_take, List.length_set, List.getElem?_take, List.getElem?_drop, List.getElem?_set, List.length_cons]
  have e1 : min (o + 1) cs.length = o + 1 := by omega
  have e2 : min o cs.length = o := by omega
  rw [e1, e2]
  by_cases h1 : j < o
  · rw [if_pos (by omega), if_pos (by omega), if_pos (by omega), if_neg (by omega), if_pos (by omega), if_pos (by omega), if_pos (by omega)]
  · by_cases h2 : j = o
    · subst h2
      rw [if_pos (by omega), if_pos (by omega), if_pos (by omega), if_pos rfl, if_pos (by omega), if_pos (by omega), if_neg (by omega)]
      simp
    · by_cases h3 : j < o + 1 + vs.length
      · rw [if_pos (by omega), if_neg (by omega), if_pos (by omega), if_neg (by omega)]
        rw [show j - o = (j - (o + 1)) + 1 by omega]
        simp
      · rw [if_neg (by omega), if_neg (by omega), if_neg (by omega)]
        congr 1
        omega
theorem spliceL_length {α : Type} (cs : List α) (o : Nat) (vs : List α) (h : o + vs.length ≤ cs.length) : (spliceL cs o vs).length = cs.length := by
  simp only [spliceL, List.length_append, List.length_take, List.length_drop]
  omega

def unfrozen (n : Nat) (fr : Nat × Nat) : Prop := ∀ j, j < n → ¬ (fr.1 ≤ j ∧ j < fr.2)

section
variable {P : Program}
theorem run_storeCells_put (b o : Nat) : ∀ (vs : List Value) (i : Nat) (w : World) (cs : Array Value) (e : TypeId) (fr : Nat × Nat), w.heap[b]? = some (.cells cs e fr) → o + i + vs.length ≤ cs.size →
    unfrozen cs.size fr → (∀ v ∈ vs, v.oneCell' = true) → (storeCells ⟨b, o, none⟩ vs i).run P w = .ok () (put w b (.cells (spliceL cs.toList (o + i) vs).toArray e fr))
  | [], i, w, cs, e, fr, hb, _, _, _ => by
    have hlt : b < w.heap.size := (Array.getElem?_eq_some_iff.1 hb).1
    have : put w b (.cells (spliceL cs.toList (o + i) []).toArray e fr) = w := by
      simp only [spliceL_nil, put]
      have : w.heap.setIfInBounds b (.cells cs.toList.toArray e fr) = w.heap := by
        apply Array.ext_getElem?
        intro j
        by_cases hj : j = b
        · subst hj; rw [Array.getElem?_setIfInBounds_self_of_lt hlt, hb]
        · rw [Array.getElem?_setIfInBounds_ne (Ne.symm hj)]
      rw [this]
    rw [this]
    rfl
  | v :: r, i, w, cs, e, fr, hb, hl, hf, h1 => by
    have hlt : b < w.heap.size := (Array.getElem?_eq_some_iff.1 hb).1
    simp only [List.length_cons] at hl
    have hadd : (⟨b, o, none⟩ : Addr).add i = ⟨b, o + i, none⟩ := by unfold Addr.add; split <;> simp_all
    have hcell : w.cell? ⟨b, o + i, none⟩ = some (cs[o + i]'(by omega)) := by
      simp [World.cell?, hb, show o + i < cs.size by omega]
    have hfz : w.frozen? ⟨b, o + i, none⟩ = false := by
      have := hf (o + i) (by omega)
      simp only [World.frozen?, hb]
      cases fr with
      | mk lo hi => simpa using this
    have hst : (store ((⟨b, o, none⟩ : Addr).add i) v).run P w = .ok () (w.setCell ⟨b, o + i, none⟩ v) := by
      rw [hadd, run_store P w _ v _ (h1 v (by simp))]
      simp [hcell, hfz]
    have hset : w.setCell ⟨b, o + i, none⟩ v = put w b (.cells (cs.setIfInBounds (o + i) v) e fr) := by
      simp only [World.setCell, put]
      congr 1
      apply Array.ext_getElem?
      intro j
      by_cases hj : j = b
      · subst hj
        rw [Array.getElem?_setIfInBounds_self_of_lt hlt, Array.getElem?_modify, hb]
        simp
      · rw [Array.getElem?_setIfInBounds_ne (Ne.symm hj), Array.getElem?_modify, if_neg (Ne.symm hj)]
    have ih := run_storeCells_put b o r (i + 1) (put w b (.cells (cs.setIfInBounds (o + i) v) e fr)) (cs.setIfInBounds (o + i) v) e fr (put_get hlt)
      (by simp; omega) (by simpa using hf) (fun x hx => h1 x (by simp [hx]))
    simp only [storeCells, Sem.run_bind, hst, Result.andThen_ok, hset, ih]
    congr 1
    simp only [put]
    congr 1
    have e1 : spliceL (cs.setIfInBounds (o + i) v).toList (o + (i + 1)) r = spliceL cs.toList (o + i) (v :: r) := by
      rw [Array.toList_setIfInBounds, show o + (i + 1) = o + i + 1 by omega]
      exact spliceL_cons _ _ _ _ (by simp; omega)
    rw [e1]
    apply Array.ext_getElem?
    intro j
    by_cases hj : j = b
    · subst hj
      rw [Array.getElem?_setIfInBounds_self_of_lt (by simpa using hlt), Array.getElem?_setIfInBounds_self_of_lt hlt]
    · rw [Array.getElem?_setIfInBounds_ne (Ne.symm hj), Array.getElem?_setIfInBounds_ne (Ne.symm hj), Array.getElem?_setIfInBounds_ne (Ne.symm hj)]
end

/-- Objects that the call owns: rows of elements of s cells each, and single variables. -/
inductive Obj where
  | row (es : List V) (s : Nat)
  | box (cs : List V)
  | mp (es : List (V × V))
  deriving Inhabited

def mpL (es : List (V × V)) : List V := es.flatMap fun p => [p.1, p.2]
def entL (es : List MapEntry) : List Value := es.flatMap fun e => [e.key, e.val]

def ObjR (w : World) (I : Nat → Prop) (ρ : Rho) (b s : Nat) : Obj → Prop
  | .row es s' => s' = s ∧ (∀ x ∈ es, x.width = s) ∧ flatL (cellsL es) ∧ ∃ cs e fr, w.heap[b]? = some (.cells cs e fr) ∧ unfrozen cs.size fr ∧ RL w I rho0 (cs.toList.take (cellsL es).length) (cellsL es)
  | .box xs => flatL xs ∧ ∃ cs e fr, w.heap[b]? = some (.cells cs e fr) ∧ unfrozen cs.size fr ∧ RL w I ρ cs.toList xs
  | .mp es => ∃ en clock, w.heap[b]? = some (.map en clock) ∧ RL w I rho0 (entL en.toList) (mpL es) ∧ (en.toList.map (·.born)).Nodup ∧ ∀ e ∈ en.toList, e.born < clock

structure Ext (w : World) (I : Nat → Prop) (ρ : Rho) (w' : World) (I' : Nat → Prop) (ρ' : Rho) : Prop where
  heap : ∀ b, I b → w'.heap[b]? = w.heap[b]?
  csz : ∀ b, csize w b ≤ csize w' b
  imp : ∀ b, I b → I' b
  rho : ∀ h p, ρ h = some p → ρ' h = some p

theorem Ext.rl {w w' : World} {I I' : Nat → Prop} {ρ ρ' : Rho} (h : Ext w I ρ w' I' ρ') {vs : List Value} {xs : List V} (hr : RL w I ρ vs xs) : RL w' I' ρ' vs xs :=
  hr.mono h.heap h.csz h.imp h.rho
theorem Ext.rl0 {w w' : World} {I I' : Nat → Prop} {ρ ρ' : Rho} (h : Ext w I ρ w' I' ρ') {vs : List Value} {xs : List V} (hr : RL w I rho0 vs xs) : RL w' I' rho0 vs xs :=
  hr.mono h.heap h.csz h.imp (fun _ _ h => h)
theorem Ext.refl (w : World) (I : Nat → Prop) (ρ : Rho) : Ext w I ρ w I ρ := ⟨fun _ _ => rfl, fun _ => Nat.le_refl _, fun _ h => h, fun _ _ h => h⟩
theorem Ext.trans {w w1 w2 : World} {I I1 I2 : Nat → Prop} {ρ ρ1 ρ2 : Rho} (h : Ext w I ρ w1 I1 ρ1) (k : Ext w1 I1 ρ1 w2 I2 ρ2) : Ext w I ρ w2 I2 ρ2 :=
  ⟨fun b hb => (k.heap b (h.imp b hb)).trans (h.heap b hb), fun b => Nat.le_trans (h.csz b) (k.csz b), fun b hb => k.imp b (h.imp b hb), fun x p hp => k.rho x p (h.rho x p hp)⟩

theorem ObjR.ext {w w' : World} {I I' : Nat → Prop} {ρ ρ' : Rho} (h : Ext w I ρ w' I' ρ') {b s : Nat} {o : Obj} (hb : w'.heap[b]? = w.heap[b]?) (hr : ObjR w I ρ b s o) : ObjR w' I' ρ' b s o := by
  cases o with
  | row es s' =>
    obtain ⟨h1, h2, h0, cs, e, fr, h3, h4, h5⟩ := hr
    exact ⟨h1, h2, h0, cs, e, fr, hb.trans h3, h4, h.rl0 h5⟩
  | box xs =>
    obtain ⟨h0, cs, e, fr, h3, h4, h5⟩ := hr
    exact ⟨h0, cs, e, fr, hb.trans h3, h4, h.rl h5⟩
  | mp es =>
    obtain ⟨en, c, h3, h4, h5, h6⟩ := hr
    exact ⟨en, c, hb.trans h3, h.rl0 h4, h5, h6⟩

theorem ObjR.lt {w : World} {I : Nat → Prop} {ρ : Rho} {b s : Nat} {o : Obj} (hr : ObjR w I ρ b s o) : b < w.heap.size := by
  cases o with
  | row es s' => obtain ⟨_, _, _, cs, e, fr, h3, _⟩ := hr; exact (Array.getElem?_eq_some_iff.1 h3).1
  | box xs => obtain ⟨_, cs, e, fr, h3, _⟩ := hr; exact (Array.getElem?_eq_some_iff.1 h3).1
  | mp es => obtain ⟨en, c, h3, _⟩ := hr; exact (Array.getElem?_eq_some_iff.1 h3).1

/-- The state of the abstract machine is that of the world: what was before the call began, and is no block of O, is as it was. -/
structure Rel (w0 : World) (O I0 : Nat → Prop) (I : Nat → Prop) (ρ : Rho) (g : Nat → Option Obj) (used : Nat → Prop) (w : World) : Prop where
  os : w.os = w0.os
  tape : w.tape = w0.tape
  output : w.output = w0.output
  size : w0.heap.size ≤ w.heap.size
  frame : ∀ b, b < w0.heap.size → ¬ O b → w.heap[b]? = w0.heap[b]?
  csz : ∀ b, csize w0 b ≤ csize w b
  ilt : ∀ b, I b → b < w.heap.size
  isub : ∀ b, I b → I0 b ∨ O b ∨ w0.heap.size ≤ b
  dom : ∀ h p, ρ h = some p → used h
  obj : ∀ h o, g h = some o → ∃ b s, ρ h = some (b, s) ∧ ¬ I b ∧ (O b ∨ w0.heap.size ≤ b) ∧ ObjR w I ρ b s o
  inj : ∀ h h' o o' b s b' s', g h = some o → g h' = some o' → ρ h = some (b, s) → ρ h' = some (b', s') → h ≠ h' → b ≠ b'

def upd {α : Type} (g : Nat → α) (h : Nat) (x : α) : Nat → α := fun k => if k = h then x else g k
theorem upd_same {α : Type} (g : Nat → α) (h : Nat) (x : α) : upd g h x h = x := by simp [upd]
theorem upd_ne {α : Type} (g : Nat → α) {h k : Nat} (x : α) (hk : k ≠ h) : upd g h x k = g k := by simp [upd, hk]

section
variable {w0 w w' : World} {O I0 I : Nat → Prop} {ρ : Rho} {g : Nat → Option Obj} {used : Nat → Prop}

theorem csize_alloc (w : World) (o : Go.Obj) (b : Nat) : csize w b ≤ csize (w.alloc o) b := by
  unfold csize
  by_cases hb : b < w.heap.size
  · rw [heap_alloc_old w o b hb]; exact Nat.le_refl _
  · rw [Array.getElem?_eq_none (by omega)]; exact Nat.zero_le _

theorem Ext.alloc (w : World) (I : Nat → Prop) (ρ : Rho) (o : Go.Obj) (hi : ∀ b, I b → b < w.heap.size) : Ext w I ρ (w.alloc o) I ρ :=
  ⟨fun b hb => heap_alloc_old w o b (hi b hb), csize_alloc w o, fun _ h => h, fun _ _ h => h⟩

/-- A new object, in a new block. -/
theorem Rel.alloc (hR : Rel w0 O I0 I ρ g used w) (nm s : Nat) (hn : ¬ used nm) (o : Obj) (c : Go.Obj)
    (ho : ObjR (w.alloc c) I (upd ρ nm (some (w.heap.size, s))) w.heap.size s o) :
    Rel w0 O I0 I (upd ρ nm (some (w.heap.size, s))) (upd g nm (some o)) (fun h => used h ∨ h = nm) (w.alloc c) ∧ Ext w I ρ (w.alloc c) I (upd ρ nm (some (w.heap.size, s))) := by
  have hx : Ext w I ρ (w.alloc c) I (upd ρ nm (some (w.heap.size, s))) :=
    ⟨fun b hb => heap_alloc_old w c b (hR.ilt b hb), csize_alloc w c, fun _ h => h, fun h p hp => by
      by_cases e : h = nm
      · subst e; exact absurd (hR.dom _ _ hp) hn
      · rw [upd_ne _ _ e]; exact hp⟩
  refine ⟨⟨hR.os, hR.tape, hR.output, ?_, ?_, fun b => Nat.le_trans (hR.csz b) (csize_alloc w c b), ?_, hR.isub, ?_, ?_, ?_⟩, hx⟩
  · rw [World.size_alloc]; have := hR.size; omega
  · intro b hb hO
    rw [heap_alloc_old w c b (by have := hR.size; omega)]
    exact hR.frame b hb hO
  · intro b hb; rw [World.size_alloc]; have := hR.ilt b hb; omega
  · intro h p hp
    by_cases e : h = nm
    · exact .inr e
    · rw [upd_ne _ _ e] at hp; exact .inl (hR.dom _ _ hp)
  · intro h o' hg
    by_cases e : h = nm
    · subst e
      rw [upd_same] at hg
      cases hg
      refine ⟨w.heap.size, s, upd_same _ _ _, fun hI => ?_, .inr hR.size, ho⟩
      have := hR.ilt _ hI
      omega
    · rw [upd_ne _ _ e] at hg
      obtain ⟨b, s', h1, h2, h3, h4⟩ := hR.obj h o' hg
      exact ⟨b, s', by rw [upd_ne _ _ e]; exact h1, h2, h3, h4.ext hx (heap_alloc_old w c b h4.lt)⟩
  · intro h h' o1 o2 b s1 b' s2 g1 g2 r1 r2 hne
    by_cases e : h = nm
    · subst e
      rw [upd_same] at r1
      cases r1
      rw [upd_ne _ _ (Ne.symm hne)] at g2 r2
      obtain ⟨b2, s2', q1, _, _, q4⟩ := hR.obj h' o2 g2
      rw [q1] at r2; cases r2
      have := q4.lt
      omega
    · rw [upd_ne _ _ e] at g1 r1
      by_cases e' : h' = nm
      · subst e'
        rw [upd_same] at r2
        cases r2
        obtain ⟨b2, s2', q1, _, _, q4⟩ := hR.obj h o1 g1
        rw [q1] at r1; cases r1
        have := q4.lt
        omega
      · rw [upd_ne _ _ e'] at g2 r2
        exact hR.inj h h' o1 o2 b s1 b' s2 g1 g2 r1 r2 hne

/-- An object is let go. -/
theorem Rel.drop (hR : Rel w0 O I0 I ρ g used w) (h0 : Nat) : Rel w0 O I0 I ρ (upd g h0 none) used w :=
  ⟨hR.os, hR.tape, hR.output, hR.size, hR.frame, hR.csz, hR.ilt, hR.isub, hR.dom, fun h o hg => by
    by_cases e : h = h0
    · subst e; rw [upd_same] at hg; cases hg
    · rw [upd_ne _ _ e] at hg; exact hR.obj h o hg, fun h h' o o' b s b' s' g1 g2 => by
    by_cases e : h = h0
    · subst e; rw [upd_same] at g1; cases g1
    · by_cases e' : h' = h0
      · subst e'; rw [upd_same] at g2; cases g2
      · rw [upd_ne _ _ e] at g1; rw [upd_ne _ _ e'] at g2; exact hR.inj h h' o o' b s b' s' g1 g2⟩

/-- An object's block is written. -/
theorem Rel.write (hR : Rel w0 O I0 I ρ g used w) (h0 : Nat) (o0 o1 : Obj) (b s : Nat) (hg : g h0 = some o0) (hr : ρ h0 = some (b, s)) (c : Go.Obj)
    (hc : csize w b ≤ csize (put w b c) b) (ho : Ext w I ρ (put w b c) I ρ → ObjR (put w b c) I ρ b s o1) :
    Rel w0 O I0 I ρ (upd g h0 (some o1)) used (put w b c) ∧ Ext w I ρ (put w b c) I ρ := by
  obtain ⟨b', s', q1, q2, q3, q4⟩ := hR.obj h0 o0 hg
  rw [hr] at q1; cases q1
  have hx : Ext w I ρ (put w b c) I ρ := ⟨fun b' hb' => put_other (fun e => q2 (e ▸ hb')), fun b' => by
    by_cases e : b' = b
    · subst e; exact hc
    · unfold csize; rw [put_other e]; exact Nat.le_refl _, fun _ h => h, fun _ _ h => h⟩
  refine ⟨⟨hR.os, hR.tape, hR.output, by rw [put_size]; exact hR.size, ?_, fun b' => Nat.le_trans (hR.csz b') (hx.csz b'), fun b' hb' => by rw [put_size]; exact hR.ilt b' hb', hR.isub, hR.dom, ?_, ?_⟩, hx⟩
  · intro b' hb' hO
    rw [put_other (fun e => ?_)]
    · exact hR.frame b' hb' hO
    · subst e
      rcases q3 with q3 | q3
      · exact hO q3
      · omega
  · intro h o hg'
    by_cases e : h = h0
    · subst e
      rw [upd_same] at hg'
      cases hg'
      exact ⟨b, s, hr, q2, q3, ho hx⟩
    · rw [upd_ne _ _ e] at hg'
      obtain ⟨b1, s1, p1, p2, p3, p4⟩ := hR.obj h o hg'
      exact ⟨b1, s1, p1, p2, p3, p4.ext hx (put_other (hR.inj h h0 o o0 b1 s1 b s hg' hg p1 hr e))⟩
  · intro h h' o o' b1 s1 b2 s2 g1 g2 r1 r2 hne
    have k1 : ∃ q, g h = some q := by
      by_cases e : h = h0
      · subst e; exact ⟨_, hg⟩
      · rw [upd_ne _ _ e] at g1; exact ⟨_, g1⟩
    have k2 : ∃ q, g h' = some q := by
      by_cases e : h' = h0
      · subst e; exact ⟨_, hg⟩
      · rw [upd_ne _ _ e] at g2; exact ⟨_, g2⟩
    obtain ⟨_, k1⟩ := k1
    obtain ⟨_, k2⟩ := k2
    exact hR.inj h h' _ _ b1 s1 b2 s2 k1 k2 r1 r2 hne

theorem Ext.drew (w : World) (I : Nat → Prop) (ρ : Rho) : Ext w I ρ w.drew I ρ := ⟨fun _ _ => rfl, fun _ => Nat.le_refl _, fun _ h => h, fun _ _ h => h⟩
/-- An order or a capacity has been drawn. -/
theorem Rel.drew (hR : Rel w0 O I0 I ρ g used w) : Rel w0 O I0 I ρ g used w.drew :=
  ⟨hR.os, hR.tape, hR.output, hR.size, hR.frame, hR.csz, hR.ilt, hR.isub, hR.dom, fun h o hg => by
    obtain ⟨b, s, h1, h2, h3, h4⟩ := hR.obj h o hg
    exact ⟨b, s, h1, h2, h3, h4.ext (Ext.drew w I ρ) rfl⟩, hR.inj⟩

/-- An object is written no more: its block may be read by whoever. -/
theorem Rel.freeze (hR : Rel w0 O I0 I ρ g used w) (h0 : Nat) (o0 : Obj) (b s : Nat) (hg : g h0 = some o0) (hr : ρ h0 = some (b, s)) :
    Rel w0 O I0 (fun x => I x ∨ x = b) ρ (upd g h0 none) used w ∧ Ext w I ρ w (fun x => I x ∨ x = b) ρ := by
  obtain ⟨b', s', q1, q2, q3, q4⟩ := hR.obj h0 o0 hg
  rw [hr] at q1; cases q1
  have hx : Ext w I ρ w (fun x => I x ∨ x = b) ρ := ⟨fun _ _ => rfl, fun _ => Nat.le_refl _, fun _ h => .inl h, fun _ _ h => h⟩
  refine ⟨⟨hR.os, hR.tape, hR.output, hR.size, hR.frame, hR.csz, fun x hx => ?_, fun x hx => ?_, hR.dom, fun h o hg' => ?_, (hR.drop h0).inj⟩, hx⟩
  · rcases hx with hx | rfl
    · exact hR.ilt x hx
    · exact q4.lt
  · rcases hx with hx | rfl
    · exact hR.isub x hx
    · exact .inr q3
  · by_cases e : h = h0
    · subst e; rw [upd_same] at hg'; cases hg'
    · rw [upd_ne _ _ e] at hg'
      obtain ⟨b1, s1, p1, p2, p3, p4⟩ := hR.obj h o hg'
      exact ⟨b1, s1, p1, fun hI => hI.elim p2 (hR.inj h h0 o o0 b1 s1 b s hg' hg p1 hr e), p3, p4.ext hx rfl⟩
end
end Go.Dm
namespace Go.Dm

/-- Operands. -/
inductive X where
  | t (n : Nat)
  | c (v : V)
  deriving Inhabited

/-- Operations. -/
inductive DOp where
  | mov (x : X)
  | pick (c a b : X)
  | bin (op : BinOp) (x y : X)
  | eqv (kd : Nat) (neg lit : Bool) (ts : List TypeId) (x y : X)
  | un (op : UnOp) (x : X)
  | conv (k : IntKind) (x : X)
  | s2b (x : X)
  | b2s (x : X)
  | s2s (x : X)
  | mki (t : TypeId) (x : X)
  | alloc (o : Obj)
  | box (s : Nat) (x : X)
  | build (zero : List V) (parts : List (Nat × Nat × X))
  | bsl (s : Nat) (base : List V) (parts : List (Nat × X))
  | mksl (s : Nat) (zero : V) (bytes : Nat) (l c : X)
  | load (n : Nat) (agg : Bool) (x : X)
  | store (n : Nat) (x v : X)
  | fld (off n : Nat) (agg : Bool) (x : X)
  | faddr (off : Nat) (x : X)
  | iaddr (arr : Option Nat) (s : Nat) (x i : X)
  | idxS (x i : X)
  | idxA (len s : Nat) (agg : Bool) (x i : X)
  | slcS (x : X) (lo hi : Option X)
  | slcL (s : Nat) (x : X) (lo hi : Option X)
  | slcA (n s : Nat) (x : X) (lo hi : Option X)
  | lenS (x : X)
  | lenL (x : X)
  | mnx (mn : Bool) (x y : X)
  | app (s bytes : Nat) (x y : X)
  | appS (bytes : Nat) (x y : X)
  | appZ (s bytes : Nat) (zero : V) (x y : X)
  | cpy (s : Nat) (x y : X)
  | ext (i : Nat) (x : X)
  | nilchk (x : X)
  | eqa (ks : List Nat) (neg : Bool) (x y : X)
  | mkmap
  | look (kd : Nat) (z : V) (ok : Bool) (x k : X)
  | mset (kd n : Nat) (x k v : X)
  | s2ap (n : Nat) (x : X)
  | asrt (ts ns : List TypeId) (conc : Bool) (z : V) (ok : Bool) (x : X)
  | lenM (x : X)
  deriving Inhabited

structure Eff where
  v : V
  new : Option Obj
  upds : List (Nat × Option Obj)

def Eff.val (v : V) : Eff := ⟨v, none, []⟩

/-- Numbers. -/
def bitsV (op : BinOp) (k : IntKind) (x y : Int) : Int :=
  let a := BitVec.ofInt k.bits x
  let b := BitVec.ofInt k.bits y
  k.wrap (match op with | .and => a &&& b | .or => a ||| b | .xor => a ^^^ b | _ => a &&& ~~~b).toNat

def binI (op : BinOp) (k : IntKind) (a b : Int) : Option V :=
  match op with
  | .add => some (.int k (k.wrap (a + b)))
  | .sub => some (.int k (k.wrap (a - b)))
  | .mul => some (.int k (k.wrap (a * b)))
  | .quo => if b ≠ 0 then some (.int k (k.wrap (a.tdiv b))) else none
  | .rem => if b ≠ 0 then some (.int k (a.tmod b)) else none
  | .and => some (.int k (bitsV .and k a b))
  | .or => some (.int k (bitsV .or k a b))
  | .xor => some (.int k (bitsV .xor k a b))
  | .andNot => some (.int k (bitsV .andNot k a b))
  | .eql => some (.bool (a == b))
  | .neq => some (.bool (a != b))
  | .lss => some (.bool (decide (a < b)))
  | .leq => some (.bool (decide (a ≤ b)))
  | .gtr => some (.bool (decide (b < a)))
  | .geq => some (.bool (decide (b ≤ a)))
  | _ => none

def shiftV (op : BinOp) (k : IntKind) (a b : Int) : Option V :=
  match op with
  | .shl => if 0 ≤ b then some (.int k (k.wrap (a * 2 ^ min b.toNat k.bits))) else none
  | .shr => if 0 ≤ b then some (.int k (a / 2 ^ min b.toNat k.bits)) else none
  | _ => none

def binS (op : BinOp) (a b : List UInt8) : Option V :=
  match op with
  | .add => if a.length + b.length ≤ 9223372036854775807 then some (.str (a ++ b)) else none
  | .eql => some (.bool (a == b))
  | .neq => some (.bool (!(a == b)))
  | _ => none

def isShift : BinOp → Bool
  | .shl | .shr => true
  | _ => false

def binV (op : BinOp) : V → V → Option V
  | .int k a, .int k' b => if isShift op then shiftV op k a b else if k = k' then binI op k a b else none
  | .str a, .str b => binS op a b
  | _, _ => none

/-- Equality of bools (0), pointers (1) and maps (2: against nil alone), and interface values (3). -/
def eqV (kd : Nat) (lit : Bool) (ts : List TypeId) (a b : V) : Option Bool :=
  match kd with
  | 0 => (match a, b with
    | .bool a, .bool b => some (a == b)
    | _, _ => none)
  | 1 => (match a, b with
    | .nilp, .nilp => some true
    | .nilp, .hp _ _ _ => some false
    | .hp _ _ _, .nilp => some false
    | .nilp, .pt _ => some false
    | .pt _, .nilp => some false
    | _, _ => none)
  | 2 => (match a, b with
    | .nilm, .nilm => some true
    | .nilm, .hm _ => some false
    | .hm _, .nilm => some false
    | _, _ => none)
  | _ => (match a, b with
    | .nili, .nili => if lit then some true else none
    | .nili, .iface _ _ => some false
    | .iface _ _, .nili => some false
    | .iface t x, .iface u y => if t = u then (match x, y with | .int k a, .int k' b => if ts.contains t = true ∧ k = k' then some (a == b) else none | _, _ => none) else some false
    | _, _ => none)

def unV (op : UnOp) : V → Option V
  | .bool b => match op with | .not => some (.bool (!b)) | _ => none
  | .int k n => match op with
    | .neg => some (.int k (k.wrap (0 - n)))
    | .xor => some (.int k (bitsV .xor k (if k.signed then -1 else k.max) n))
    | _ => none
  | _ => none

def bytesV (l : List UInt8) : List V := l.map fun b => .int .u8 (b.toNat : Int)
def byteOf : V → Option UInt8
  | .int .u8 n => some (UInt8.ofNat n.toNat)
  | _ => none

section
variable (g : Nat → Option Obj)

/-- A slice's elements. -/
def viewL (s : Nat) : V → Option (List V)
  | .nils => some []
  | .sl es s' => if s' = s ∨ es = [] then some es else none
  | .hs h off len => match g h with
    | some (.row es s') => if s' = s then (if off + len ≤ es.length then some ((es.drop off).take len) else none) else none
    | _ => none
  | _ => none

def deepW (f : V → Option (V × List Nat)) : List V → Option (List V × List Nat)
  | [] => some ([], [])
  | v :: r => match f v with
    | some (x, k) => match deepW f r with
      | some (xs, ks) => some (x :: xs, k ++ ks)
      | none => none
    | none => none

/-- A value that holds no handle any more: what it held is nobody's from now on. -/
def deep : Nat → V → Option (V × List Nat)
  | 0, _ => none
  | n + 1, v => match v with
    | .undef => none
    | .bool b => some (.bool b, [])
    | .int k n => some (.int k n, [])
    | .str l => some (.str l, [])
    | .nilp => some (.nilp, [])
    | .nils => some (.nils, [])
    | .nilm => some (.nilm, [])
    | .nili => some (.nili, [])
    | .nilf => some (.nilf, [])
    | .sl es s => some (.sl es s, [])
    | .pt cs => some (.pt cs, [])
    | .gp a b => some (.gp a b, [])
    | .hs h off len => match g h with
      | some (.row es s) => if off + len ≤ es.length then some (.sl ((es.drop off).take len) s, [h]) else none
      | _ => none
    | .hp h i f => match g h with
      | some (.box cs) => if i = 0 ∧ f = 0 then (deepW (deep n) cs).map fun p => (.pt p.1, h :: p.2) else none
      | _ => none
    | .iface t x => (deep n x).map fun p => (.iface t p.1, p.2)
    | .agg cs => (deepW (deep n) cs).map fun p => (.agg p.1, p.2)
    | _ => none

def kills (ks : List Nat) : List (Nat × Option Obj) := ks.map fun h => (h, none)

def shapeAs (agg : Bool) (n : Nat) (e : V) : Option V :=
  match agg, e with
  | true, .agg cs => if cs.length = n then some (.agg cs) else none
  | true, _ => none
  | false, .agg _ => none
  | false, e => if n = 1 then some e else none

/-- n cells from f on, as one value. -/
def cutAs (agg : Bool) (f n : Nat) (cs : List V) : Option V :=
  if agg then (if f + n ≤ cs.length then some (.agg ((cs.drop f).take n)) else none)
  else if n = 1 then cs[f]? else none

def loadV (n : Nat) (agg : Bool) : V → Option V
  | .hp h i f => match g h with
    | some (.row es s) =>
      if f = 0 ∧ n = s then (match es[i]? with | some e => shapeAs agg n e | none => none)
      else if agg ∧ f = 0 ∧ 0 < s ∧ n % s = 0 ∧ i + n / s ≤ es.length then some (.agg (cellsL ((es.drop i).take (n / s))))
      else (match es[i]? with | some (.agg cs) => cutAs agg f n cs | _ => none)
    | some (.box cs) => if i = 0 then cutAs agg f n cs else none
    | _ => none
  | .pt cs => cutAs agg 0 n cs
  | _ => none

def chunk (s : Nat) : Nat → List V → List V
  | 0, _ => []
  | n + 1, cs => .agg (cs.take s) :: chunk s n (cs.drop s)
def rowOf (s : Nat) (cs : List V) : List V := if s = 1 then cs else chunk s (cs.length / s) cs

def storeV (n : Nat) (v : V) : V → Option (List (Nat × Option Obj))
  | .hp h i f => match g h with
    | some (.row es s) =>
      if f = 0 ∧ n = s ∧ v.width = n then
        (match deep g 6 v with | some (x, ks) => if i < es.length ∧ !ks.contains h then some ((h, some (.row (es.set i x) s)) :: kills ks) else none | none => none)
      else if i = 0 ∧ f = 0 ∧ n = es.length * s ∧ v.width = n ∧ 0 < s then
        (match deep g 6 v with | some (.agg cs, ks) => if !ks.contains h then some ((h, some (.row (rowOf s cs) s)) :: kills ks) else none | _ => none)
      else if v.width = n ∧ n = 1 ∧ f < s then
        (match es[i]? with
         | some (.agg cs) => (match deep g 6 v with | some (x, ks) => if x.one = true ∧ !ks.contains h then some ((h, some (.row (es.set i (.agg (cs.set f x))) s)) :: kills ks) else none | none => none)
         | _ => none)
      else none
    | some (.box cs) => if i = 0 ∧ v.sto = true ∧ v.width = n ∧ f + n ≤ cs.length then some [(h, some (.box (spliceL cs f v.cells)))] else none
    | _ => none
  | _ => none

/-- Keys, and cells: truths (0), numbers (1), texts (2). -/
def eqB (kd : Nat) (x y : V) : Option Bool :=
  match x, y with
  | .bool a, .bool b => if kd = 0 then some (a == b) else none
  | .int k a, .int k' b => if kd = 1 ∧ k = k' then some (a == b) else none
  | .str a, .str b => if kd = 2 then some (a == b) else none
  | _, _ => none
def eqAll : List Nat → List V → List V → Option Bool
  | [], [], [] => some true
  | kd :: ks, x :: r, y :: q => match eqB kd x y, eqAll ks r q with
    | some a, some b => some (a && b)
    | _, _ => none
  | _, _, _ => none
def mfind (kd : Nat) (k : V) : List (V × V) → Option (Option V)
  | [] => some none
  | (a, b) :: r => match eqB kd k a with
    | some true => some (some b)
    | some false => mfind kd k r
    | none => none
def mput (kd : Nat) (k v : V) : List (V × V) → Option (List (V × V))
  | [] => some [(k, v)]
  | (a, b) :: r => match eqB kd k a with
    | some true => some ((a, v) :: r)
    | some false => (mput kd k v r).map ((a, b) :: ·)
    | none => none
def kindB (kd : Nat) : V → Bool
  | .bool _ => kd == 0
  | .int _ _ => kd == 1
  | .str _ => kd == 2
  | _ => false

def natOf (n : Int) : Option Nat := if 0 ≤ n then some n.toNat else none

/-- The address of an element. -/
def iaddrV (arr : Option Nat) (s : Nat) (i : Nat) : V → Option V
  | .hs h off len => match g h with
    | some (.row _ s') => if arr = none ∧ s' = s ∧ i < len then some (.hp h (off + i) 0) else none
    | _ => none
  | .sl es s' => if arr = none ∧ s' = s then (match es[i]? with | some e => some (.pt e.cells) | none => none) else none
  | .hp h j f => match arr, g h with
    | some n, some (.row es s') => if i < n then (if j = 0 ∧ f = 0 ∧ s' = s ∧ es.length = n then some (.hp h i 0) else some (.hp h j (f + i * s))) else none
    | some n, some (.box _) => if i < n then some (.hp h j (f + i * s)) else none
    | _, _ => none
  | .pt cs => match arr with
    | some n => if i < n then some (.pt (cs.drop (i * s))) else none
    | none => none
  | .gp gi o => match arr with
    | some n => if i < n then some (.gp gi (o + i * s)) else none
    | none => none
  | _ => none

def bound (d : Nat) (ev : X → V) : Option X → Option Nat
  | none => some d
  | some x => match ev x with
    | .int _ n => natOf n
    | _ => none

def slcLV (s : Nat) (v : V) (lo : Nat) (hi : Option Nat) : Option V :=
  match v with
  | .nils => if lo = 0 ∧ hi.getD 0 = 0 then some .nils else none
  | .sl es s' => if s' = s then (if lo ≤ hi.getD es.length ∧ hi.getD es.length ≤ es.length then some (.sl ((es.take (hi.getD es.length)).drop lo) s) else none) else none
  | .hs h off len => match g h with
    | some (.row _ s') => if s' = s ∧ lo ≤ hi.getD len ∧ hi.getD len ≤ len then some (.hs h (off + lo) (hi.getD len - lo)) else none
    | _ => none
  | _ => none

def lenV : V → Option Nat
  | .nils => some 0
  | .sl es _ => some es.length
  | .hs _ _ len => some len
  | _ => none

def roomBytes : Nat := 140737488355328

/-- append: what comes of it is a new object; the old one is nobody's. -/
def appV (s bytes nm : Nat) (x : V) (ys : List V) : Option Eff :=
  match x with
  | .nils => if ys = [] then some (.val .nils) else if ys.length * bytes ≤ roomBytes then some ⟨.hs nm 0 ys.length, some (.row ys s), []⟩ else none
  | .hs h off len => match g h with
    | some (.row es s') => if s' = s ∧ off = 0 ∧ len ≤ es.length ∧ (len + ys.length) * bytes ≤ roomBytes then some ⟨.hs nm 0 (len + ys.length), some (.row (es.take len ++ ys) s), [(h, none)]⟩ else none
    | _ => none
  | _ => none

/-- The parts of a slice's literal, made free of handles. -/
def deepParts : List (Nat × V) → Option (List (Nat × V) × List Nat)
  | [] => some ([], [])
  | (i, v) :: r => match deep g 6 v with
    | some (x, k) => match deepParts r with
      | some (xs, ks) => some ((i, x) :: xs, k ++ ks)
      | none => none
    | none => none
def setParts : List (Nat × V) → List V → List V
  | [], es => es
  | (i, v) :: r, es => setParts r (es.set i v)
def splices : List (Nat × Nat × V) → List V → Option (List V)
  | [], cs => some cs
  | (off, n, v) :: r, cs => if v.sto = true ∧ v.width = n ∧ off + n ≤ cs.length then splices r (spliceL cs off v.cells) else none
end
end Go.Dm
namespace Go.Dm

/-- The address of a field. -/
def faddrV (off : Nat) : V → Option V
  | .hp h i f => some (.hp h i (f + off))
  | .pt cs => some (.pt (cs.drop off))
  | .gp gi o => some (.gp gi (o + off))
  | _ => none

def roomMake : Nat := 281474976710656

def cpyV (g : Nat → Option Obj) (s : Nat) (x : V) (ys : List V) : Option Eff :=
  match x with
  | .nils => some (.val (.int .i64 0))
  | .hs h off len => match g h with
    | some (.row es s') => if s' = s ∧ off + len ≤ es.length then
        some ⟨.int .i64 (min ys.length len : Nat), none, [(h, some (.row (spliceL es off (ys.take len)) s))]⟩ else none
    | _ => none
  | _ => none

def slcAV (g : Nat → Option Obj) (n s lo : Nat) (hi : Option Nat) : V → Option V
  | .hp h i f => match g h with
    | some (.row es s') => if i = 0 ∧ f = 0 ∧ s' = s ∧ es.length = n ∧ lo ≤ hi.getD n ∧ hi.getD n ≤ n then some (.hs h lo (hi.getD n - lo)) else none
    | _ => none
  | .pt cs => if s = 1 ∧ n ≤ cs.length ∧ lo ≤ hi.getD n ∧ hi.getD n ≤ n then some (.sl ((cs.take (hi.getD n)).drop lo) 1) else none
  | _ => none

/-- What a map has for a key. -/
def lookV (g : Nat → Option Obj) (kd : Nat) (k : V) : V → Option (Option V)
  | .nilm => if kindB kd k then some none else none
  | .hm h => (match g h with | some (.mp es) => if kindB kd k then mfind kd k es else none | _ => none)
  | _ => none
/-- How many entries a map has. -/
def lenMV (g : Nat → Option Obj) : V → Option Nat
  | .nilm => some 0
  | .hm h => (match g h with | some (.mp es) => some es.length | _ => none)
  | _ => none
def lookR (z : V) (ok : Bool) : Option V → V
  | some y => if ok then .tup [y, .bool true] else y
  | none => if ok then .tup [z, .bool false] else z
/-- A type assertion: of the types ts it holds, of those of ns not. -/
def asrtV (ts ns : List TypeId) (conc : Bool) (z : V) (ok : Bool) : V → Option V
  | .iface t v => if ts.contains t = true then some (if ok then .tup [if conc then v else .iface t v, .bool true] else if conc then v else .iface t v)
    else if ok = true ∧ (conc = true ∨ ns.contains t = true) then some (.tup [z, .bool false]) else none
  | .nili => if ok then some (.tup [z, .bool false]) else none
  | _ => none
def s2apV (n : Nat) : V → Option V
  | .hs h off len => if 0 < n ∧ n ≤ len then some (.hp h off 0) else none
  | .sl es _ => if 0 < n ∧ n ≤ es.length then some (.pt (cellsL es)) else none
  | _ => none

/-- One operation: what comes of it, given the operands' values, the objects, the tables, and the new object's name. -/
def step (ev : X → V) (g : Nat → Option Obj) (gl : Nat → Option (List V)) (nm : Nat) : DOp → Option Eff
  | .mov x => some (.val (ev x))
  | .pick c a b => match ev c with
    | .bool t => some (.val (if t then ev a else ev b))
    | _ => none
  | .bin op x y => (binV op (ev x) (ev y)).map .val
  | .eqv kd neg lit ts x y => (eqV kd lit ts (ev x) (ev y)).map fun b => .val (.bool (if neg then !b else b))
  | .un op x => (unV op (ev x)).map .val
  | .conv k x => match ev x with
    | .int _ n => some (.val (.int k (k.wrap n)))
    | _ => none
  | .s2b x => match ev x with
    | .str l => if l.length ≤ roomBytes then some ⟨.hs nm 0 l.length, some (.row (bytesV l) 1), []⟩ else none
    | _ => none
  | .b2s x => match viewL g 1 (ev x) with
    | some es => (es.mapM byteOf).map fun l => .val (.str l)
    | none => none
  | .s2s x => match ev x with
    | .str l => some (.val (.str l))
    | _ => none
  | .mki t x => some (.val (.iface t (ev x)))
  | .alloc o => some ⟨.hp nm 0 0, some o, []⟩
  | .box s x => if s = 0 then (if (ev x).sto = true then some ⟨.hp nm 0 0, some (.box (ev x).cells), []⟩ else none)
    else match deep g 6 (ev x) with
      | some (v, ks) => some ⟨.hp nm 0 0, some (.row (rowOf s v.cells) s), kills ks⟩
      | none => none
  | .build zero parts => (splices (parts.map fun p => (p.1, p.2.1, ev p.2.2)) zero).map fun cs => .val (.agg cs)
  | .bsl s base parts => match deepParts g (parts.map fun p => (p.1, ev p.2)) with
    | some (ps, ks) => if ps.all (fun p => p.2.width == s && decide (p.1 < base.length)) then
        (if base = [] then some ⟨.nils, none, kills ks⟩ else some ⟨.hs nm 0 base.length, some (.row (setParts ps base) s), kills ks⟩) else none
    | none => none
  | .mksl s zero bytes l c => match ev l, ev c with
    | .int _ a, .int _ b => if 0 ≤ a ∧ a ≤ b ∧ b.toNat * bytes ≤ roomMake then
        some ⟨.hs nm 0 a.toNat, some (.row (List.replicate b.toNat zero) s), []⟩ else none
    | _, _ => none
  | .load n agg x => match ev x with
    | .gp gi off => (match gl gi with | some cs => (cutAs agg off n cs).map .val | none => none)
    | v => (loadV g n agg v).map .val
  | .store n x v => (storeV g n (ev v) (ev x)).map fun u => ⟨.undef, none, u⟩
  | .fld off n agg x => match ev x with
    | .agg cs => (cutAs agg off n cs).map .val
    | _ => none
  | .faddr off x => (faddrV off (ev x)).map .val
  | .iaddr arr s x i => match ev i with
    | .int _ n => if 0 ≤ n then (iaddrV g arr s n.toNat (ev x)).map .val else none
    | _ => none
  | .idxS x i => match ev x, ev i with
    | .str l, .int _ n => if 0 ≤ n then (match l[n.toNat]? with | some b => some (.val (.int .u8 (b.toNat : Int))) | none => none) else none
    | _, _ => none
  | .idxA len s agg x i => match ev x, ev i with
    | .agg cs, .int _ n => if 0 ≤ n ∧ n < len then (cutAs agg (n.toNat * s) s cs).map .val else none
    | _, _ => none
  | .slcS x lo hi => match ev x, bound 0 ev lo with
    | .str l, some a => match bound l.length ev hi with
      | some b => if a ≤ b ∧ b ≤ l.length then some (.val (.str ((l.take b).drop a))) else none
      | none => none
    | _, _ => none
  | .slcL s x lo hi => match bound 0 ev lo, hi with
    | some a, none => (slcLV g s (ev x) a none).map .val
    | some a, some y => (match ev y with | .int _ n => if 0 ≤ n then (slcLV g s (ev x) a (some n.toNat)).map .val else none | _ => none)
    | none, _ => none
  | .slcA n s x lo hi => match bound 0 ev lo, hi with
    | some a, none => (slcAV g n s a none (ev x)).map .val
    | some a, some y => (match ev y with | .int _ k => if 0 ≤ k then (slcAV g n s a (some k.toNat) (ev x)).map .val else none | _ => none)
    | none, _ => none
  | .lenS x => match ev x with
    | .str l => some (.val (.int .i64 (l.length : Int)))
    | _ => none
  | .lenL x => match lenV (ev x) with
    | some n => some (.val (.int .i64 (n : Int)))
    | none => none
  | .mnx mn x y => match ev x, ev y with
    | .int k a, .int _ b => some (.val (.int k (if mn then (if b < a then b else a) else (if a < b then b else a))))
    | _, _ => none
  | .app s bytes x y => match viewL g s (ev y) with
    | some ys => appV g s bytes nm (ev x) ys
    | none => none
  | .appS bytes x y => match ev y with
    | .str l => appV g 1 bytes nm (ev x) (bytesV l)
    | _ => none
  | .appZ s bytes zero x y => match ev y with
    | .int _ n => if 0 ≤ n ∧ n.toNat * bytes ≤ roomBytes then appV g s bytes nm (ev x) (List.replicate n.toNat zero) else none
    | _ => none
  | .cpy s x y => match viewL g s (ev y) with
    | some ys => cpyV g s (ev x) ys
    | none => none
  | .ext i x => match ev x with
    | .tup vs => (match vs[i]? with | some v => some (.val v) | none => none)
    | _ => none
  | .nilchk x => match ev x with
    | .hp h i f => some (.val (.hp h i f))
    | .pt cs => some (.val (.pt cs))
    | .gp a b => some (.val (.gp a b))
    | .fn f cs => some (.val (.fn f cs))
    | _ => none
  | .eqa ks neg x y => match ev x, ev y with
    | .agg a, .agg b => (eqAll ks a b).map fun r => .val (.bool (if neg then !r else r))
    | _, _ => none
  | .mkmap => some ⟨.hm nm, some (.mp []), []⟩
  | .look kd z ok x k => (lookV g kd (ev k) (ev x)).map fun o => .val (lookR z ok o)
  | .mset kd n x k v => match ev x with
    | .hm h => (match g h, deep g 6 (ev v) with
      | some (.mp es), some (y, ks) => if (ev v).width = n ∧ kindB kd (ev k) ∧ !ks.contains h then (mput kd (ev k) y es).map fun es' => ⟨.undef, none, (h, some (.mp es')) :: kills ks⟩ else none
      | _, _ => none)
    | _ => none
  | .s2ap n x => (s2apV n (ev x)).map .val
  | .asrt ts ns conc z ok x => (asrtV ts ns conc z ok (ev x)).map .val
  | .lenM x => match lenMV g (ev x) with
    | some n => some (.val (.int .i64 (n : Int)))
    | none => none

/-! The translation. -/
def valV : Nat → Value → Option V
  | _, .bool b => some (.bool b)
  | _, .int k n => some (.int k n)
  | _, .string s => some (.str s.data.toList)
  | _, .pointer none => some .nilp
  | _, .slice none 0 0 => some .nils
  | _, .map none => some .nilm
  | _, .nilIface => some .nili
  | _, .nilFunc => some .nilf
  | n + 1, .iface t v => (valV n v).map (.iface t)
  | n + 1, .agg cs => match valVs n cs.toList with
    | some xs => if xs.all V.one then some (.agg xs) else none
    | none => none
  | _, _ => none
where
  valVs : Nat → List Value → Option (List V)
    | _, [] => some []
    | n, v :: r => match valV n v with
      | some x => (match valVs n r with | some xs => some (x :: xs) | none => none)
      | none => none

def cX : Operand → Option X
  | .tmp t => some (.t t)
  | .const v => (valV 4 v).map .c
  | .global g => some (.c (.gp g 0))
  | .func f => some (.c (.fn f []))
def cXs : List Operand → Option (List X)
  | [] => some []
  | o :: r => match cX o with
    | some x => (match cXs r with | some xs => some (x :: xs) | none => none)
    | none => none
def cXo : Option Operand → Option (Option X)
  | none => some none
  | some o => (cX o).map some

section
variable (P : Program)
def aggT (t : TypeId) : Option Bool := (P.underlying t).map fun | .struct _ | .array _ _ => true | _ => false
def sizT (t : TypeId) : Option Nat := (P.info? t).map (·.size)
/-- Its cells, as bytes, and its zero value. -/
def infT (t : TypeId) : Option (Nat × Nat × Value) := (P.info? t).bind fun i => i.zero.map fun z => (i.size, i.bytes, z)

def zeroE (t : TypeId) : Option V := (infT P t).bind fun p => valV 6 p.2.2
def objZ (t : TypeId) : Option Obj :=
  match zeroE P t, P.underlying t with
  | some (.agg cs), some (.array _ e) => (match sizT P e with
    | some s => if 0 < s then some (.row (rowOf s cs) s) else none
    | none => none)
  | some _, some (.array _ _) => none
  | some z, some _ => if z.sto = true then some (.box z.cells) else none
  | _, _ => none
def boxS (t : TypeId) : Option Nat :=
  match P.underlying t with
  | some (.array _ e) => (match sizT P e with | some s => if 0 < s then some s else none | none => none)
  | some _ => some 0
  | none => none

def cParts (f : Nat → Option (Nat × Nat)) : List (Nat × Operand) → Option (List (Nat × Nat × X))
  | [] => some []
  | (i, o) :: r => match f i, cX o, cParts f r with
    | some (off, n), some x, some xs => some ((off, n, x) :: xs)
    | _, _, _ => none
def cPartsE : List (Nat × Operand) → Option (List (Nat × X))
  | [] => some []
  | (i, o) :: r => match cX o, cPartsE r with
    | some x, some xs => some ((i, x) :: xs)
    | _, _ => none

/-- The types of whole numbers with methods. -/
def intErrs : List TypeId := (List.range P.types.size).filter fun t =>
  match P.info? t, P.underlying t with
  | some i, some (.int _) => i.comparable && !i.methods.isEmpty
  | _, _ => false

def kindT (t : TypeId) : Option Nat :=
  match P.underlying t with
  | some .bool => some 0
  | some (.int _) => some 1
  | some .string => some 2
  | _ => none
/-- A type whose cells are truths, numbers and texts alone, one behind the other: their kinds. -/
def flatFs (f : TypeId → Option (List Nat)) : List Field → Nat → Option (List Nat)
  | [], _ => some []
  | fd :: r, off => if fd.name ≠ "_" ∧ fd.offset = off then (match f fd.type with
      | some ks => if sizT P fd.type = some ks.length ∧ 0 < ks.length then (flatFs f r (off + ks.length)).map (ks ++ ·) else none
      | none => none) else none
def flatTy : Nat → TypeId → Option (List Nat)
  | 0, _ => none
  | n + 1, t => match P.underlying t with
    | some .bool => some [0]
    | some (.int _) => some [1]
    | some .string => some [2]
    | some (.array len e) => (match flatTy n e with
      | some ks => if sizT P e = some ks.length ∧ 0 < ks.length then some (List.replicate len ks).flatten else none
      | none => none)
    | some (.struct fs) => if P.stoodInHeld t then none else flatFs P (flatTy n) fs.toList 0
    | _ => none
/-- Are all the methods there? -/
def hasM (want : Array (String × TypeId)) (got : Array Method) : Bool := want.toList.all fun p => got.toList.any fun m => m.name == p.1 && m.sig == p.2
/-- The types that have the methods, and those that lack one (of those that have any). -/
def implT (want : Array (String × TypeId)) (yes : Bool) : List TypeId := (List.range P.types.size).filter fun t =>
  match P.info? t with
  | some i => !i.methods.isEmpty && (hasM want i.methods == yes)
  | none => false

def isLit : Operand → Bool
  | .const _ => true
  | _ => false

def cConv (src dst : TypeId) (x : X) : Option DOp :=
  match P.underlying src, P.underlying dst with
  | some (.int _), some (.int k) => some (.conv k x)
  | some .string, some .string => some (.s2s x)
  | some .string, some (.slice e) => if P.underlying e matches some (.int .u8) then some (.s2b x) else none
  | some (.slice e), some .string => if P.underlying e matches some (.int .u8) then some (.b2s x) else none
  | _, _ => none

def cOp (eqs : List TypeId) : Op → Option DOp
  | .move x | .assign x => (cX x).map .mov
  | .pick c a b => match cX c, cX a, cX b with
    | some c, some a, some b => some (.pick c a b)
    | _, _, _ => none
  | .alloc e => (objZ P e).map .alloc
  | .box e x => match boxS P e, cX x with
    | some s, some x => some (.box s x)
    | _, _ => none
  | .build t parts => match P.underlying t, zeroE P t with
    | some (.struct fs), some (.agg z) => match fs.toList.mapM (fun f => (P.info? f.type).map fun i => (f.offset, i.size)) with
      | some pl => (cParts (pl.toArray[·]?) parts.toList).map (.build z)
      | none => none
    | some (.array _ e), some (.agg z) => match sizT P e with
      | some s => (cParts (fun i => some (i * s, s)) parts.toList).map (.build z)
      | none => none
    | _, _ => none
  | .buildSlice t n parts => match P.underlying t with
    | some (.slice e) => match infT P e, zeroE P e, cPartsE parts.toList with
      | some (s, _, _), some z, some ps => if 0 < s ∧ n * s ≤ 16777216 ∧ z.width = s ∧ z.sto = true then some (.bsl s (List.replicate n z) ps) else none
      | _, _, _ => none
    | _ => none
  | .load t x => match aggT P t, sizT P t, cX x with
    | some a, some n, some x => some (.load n a x)
    | _, _, _ => none
  | .store t x v => match sizT P t, cX x, cX v with
    | some n, some x, some v => some (.store n x v)
    | _, _, _ => none
  | .nilCheck x => (cX x).map .nilchk
  | .binOp op t x y _ => match P.underlying t, cX x, cX y with
    | some (.int _), some a, some b => some (.bin op a b)
    | some .string, some a, some b => some (.bin op a b)
    | some .bool, some a, some b => (match op with | .eql => some (.eqv 0 false false [] a b) | .neq => some (.eqv 0 true false [] a b) | _ => none)
    | some (.pointer _), some a, some b => (match op with | .eql => some (.eqv 1 false false [] a b) | .neq => some (.eqv 1 true false [] a b) | _ => none)
    | some (.map _ _), some a, some b => (match op with | .eql => some (.eqv 2 false false [] a b) | .neq => some (.eqv 2 true false [] a b) | _ => none)
    | some (.struct _), some a, some b => (match flatTy P 6 t, P.eqGuardType P.depth t, op with | some ks, false, .eql => some (.eqa ks false a b) | some ks, false, .neq => some (.eqa ks true a b) | _, _, _ => none)
    | some (.array _ _), some a, some b => (match flatTy P 6 t, P.eqGuardType P.depth t, op with | some ks, false, .eql => some (.eqa ks false a b) | some ks, false, .neq => some (.eqa ks true a b) | _, _, _ => none)
    | some (.interface _), some a, some b => (match op with | .eql => some (.eqv 3 false (isLit x || isLit y) eqs a b) | .neq => some (.eqv 3 true (isLit x || isLit y) eqs a b) | _ => none)
    | _, _, _ => none
  | .unOp op _ x => (cX x).map (.un op)
  | .convert s d x => (cX x).bind (cConv P s d)
  | .makeInterface t x => match P.underlying t, cX x with
    | some (.interface _), _ => none
    | some _, some x => some (.mki t x)
    | _, _ => none
  | .makeSlice t l c => match P.underlying t with
    | some (.slice e) => match infT P e, zeroE P e, cX l, cX c with
      | some (s, b, _), some z, some l, some c => if 0 < s ∧ 0 < b ∧ z.width = s ∧ z.sto = true then some (.mksl s z b l c) else none
      | _, _, _, _ => none
    | _ => none
  | .slice t x lo hi none => match P.underlying t, cX x, cXo lo, cXo hi with
    | some .string, some x, some lo, some hi => some (.slcS x lo hi)
    | some (.slice e), some x, some lo, some hi => (sizT P e).map fun s => .slcL s x lo hi
    | some (.array n e), some x, some lo, some hi => (sizT P e).map fun s => .slcA n s x lo hi
    | some (.pointer a), some x, some lo, some hi => (match P.underlying a with | some (.array n e) => (sizT P e).map fun s => .slcA n s x lo hi | _ => none)
    | _, _, _, _ => none
  | .fieldAddr t x i => match P.underlying t, cX x with
    | some (.struct fs), some x => match fs[i]? with
      | some f => (match sizT P f.type with | some n => if 0 < n then some (.faddr f.offset x) else none | none => none)
      | none => none
    | _, _ => none
  | .field t x i => match P.underlying t, cX x with
    | some (.struct fs), some x => match fs[i]? with
      | some f => (match sizT P f.type, aggT P f.type with | some n, some a => some (.fld f.offset n a x) | _, _ => none)
      | none => none
    | _, _ => none
  | .indexAddr t x i => match P.underlying t, cX x, cX i with
    | some (.slice e), some x, some i => (sizT P e).bind fun s => if 0 < s then some (.iaddr none s x i) else none
    | some (.array n e), some x, some i => (sizT P e).bind fun s => if 0 < s then some (.iaddr (some n) s x i) else none
    | _, _, _ => none
  | .index t x i => match P.underlying t, cX x, cX i with
    | some .string, some x, some i => some (.idxS x i)
    | some (.array n e), some x, some i => (match sizT P e, aggT P e with | some s, some a => some (.idxA n s a x i) | _, _ => none)
    | _, _, _ => none
  | .extract x i => (cX x).map (.ext i)
  | .makeMap t none => some .mkmap
  | .lookup t x k ok => match P.underlying t with
    | some (.map q e) => (match kindT P q, zeroE P e, cX x, cX k with
      | some kd, some z, some x, some k => some (.look kd z ok x k)
      | _, _, _, _ => none)
    | _ => none
  | .mapUpdate t m k x => match P.underlying t with
    | some (.map q e) => (match kindT P q, sizT P e, cX m, cX k, cX x with
      | some kd, some n, some m, some k, some x => some (.mset kd n m k x)
      | _, _, _, _, _ => none)
    | _ => none
  | .typeAssert x _ asserted ok => match P.underlying asserted, zeroE P asserted, cX x with
    | some (.interface want), some z, some x => some (.asrt (implT P want true) (implT P want false) false z ok x)
    | some _, some z, some x => some (.asrt [asserted] [] true z ok x)
    | _, _, _ => none
  | .sliceToArrayPointer arr x => match P.underlying arr, cX x with
    | some (.array n e), some x => some (.s2ap n x)
    | _, _ => none
  | .call { callee := .builtin .len, args := args, argTypes := ts } => match args.toList, ts.toList with
    | [x], [t] => (match P.underlying t, cX x with
      | some .string, some x => some (.lenS x)
      | some (.slice _), some x => some (.lenL x)
      | some (.array n _), some _ => some (.mov (.c (.int .i64 (n : Int))))
      | some (.map _ _), some x => some (.lenM x)
      | _, _ => none)
    | _, _ => none
  | .call { callee := .builtin .min, args := args, argTypes := _ } => match args.toList with
    | [x, y] => (match cX x, cX y with | some x, some y => some (.mnx true x y) | _, _ => none)
    | _ => none
  | .call { callee := .builtin .max, args := args, argTypes := _ } => match args.toList with
    | [x, y] => (match cX x, cX y with | some x, some y => some (.mnx false x y) | _, _ => none)
    | _ => none
  | .call { callee := .builtin .append, args := args, argTypes := ts } => match args.toList, ts.toList with
    | [x, y], [t, u] => match P.underlying t, P.underlying u, cX x, cX y with
      | some (.slice e), some (.slice _), some x, some y => (match infT P e with | some (s, b, z) => if 0 < s ∧ 0 < b ∧ z.cells.size = s then some (.app s b x y) else none | none => none)
      | some (.slice e), some .string, some x, some y => (match infT P e with | some (s, b, z) => if s = 1 ∧ 0 < b ∧ z.cells.size = s then some (.appS b x y) else none | none => none)
      | some (.slice e), some (.int _), some x, some y => (match infT P e, zeroE P e with | some (s, b, zv), some z => if 0 < s ∧ 0 < b ∧ zv.cells.size = s ∧ z.width = s ∧ z.sto = true then some (.appZ s b z x y) else none | _, _ => none)
      | _, _, _, _ => none
    | _, _ => none
  | .call { callee := .builtin .copy, args := args, argTypes := ts } => match args.toList, ts.toList with
    | [x, y], [t, u] => match P.underlying t, P.underlying u, cX x, cX y with
      | some (.slice e), some (.slice _), some x, some y => (match sizT P e with | some s => if 0 < s then some (.cpy s x y) else none | _ => none)
      | _, _, _, _ => none
    | _, _ => none
  | _ => none
end
end Go.Dm
set_option linter.unusedSimpArgs false
set_option linter.unusedVariables false
namespace Go.Dm

section
variable {w w' : World} {I I' : Nat → Prop} {ρ ρ' : Rho}

/-! Inversions. -/
theorem inv_bool {v : Value} {b : Bool} (h : R w I ρ v (.bool b)) : v = .bool b := by cases h; rfl
theorem inv_int {v : Value} {k : IntKind} {n : Int} (h : R w I ρ v (.int k n)) : v = .int k n := by cases h; rfl
theorem inv_str {v : Value} {l : List UInt8} (h : R w I ρ v (.str l)) : v = .string ⟨l.toArray⟩ := by cases h; rfl
theorem inv_nilp {v : Value} (h : R w I ρ v .nilp) : v = .pointer none := by cases h; rfl
theorem inv_nils {v : Value} (h : R w I ρ v .nils) : ∃ a, v = .slice a 0 0 := by cases h; exact ⟨_, rfl⟩
theorem inv_nilm {v : Value} (h : R w I ρ v .nilm) : v = .map none := by cases h; rfl
theorem inv_nili {v : Value} (h : R w I ρ v .nili) : v = .nilIface := by cases h; rfl
theorem inv_nilf {v : Value} (h : R w I ρ v .nilf) : v = .nilFunc := by cases h; rfl
theorem inv_iface {v : Value} {t : TypeId} {x : V} (h : R w I ρ v (.iface t x)) : ∃ u, v = .iface t u ∧ R w I ρ u x := by cases h with | iface _ _ _ h1 _ => exact ⟨_, rfl, h1⟩
theorem inv_agg {v : Value} {xs : List V} (h : R w I ρ v (.agg xs)) : ∃ a, v = .agg a ∧ flatL xs ∧ RL w I ρ a.toList xs := by cases h with | agg _ _ h0 h1 _ => exact ⟨_, rfl, h0, h1⟩
theorem inv_tup {v : Value} {xs : List V} (h : R w I ρ v (.tup xs)) : ∃ a, v = .tuple a ∧ RL w I ρ a.toList xs := by cases h with | tup _ _ h1 _ => exact ⟨_, rfl, h1⟩
theorem inv_hp {v : Value} {h i f : Nat} (hr : R w I ρ v (.hp h i f)) : ∃ b s, v = .pointer (some ⟨b, i * s + f, none⟩) ∧ ρ h = some (b, s) := by cases hr with | hp _ _ _ _ _ h1 _ => exact ⟨_, _, rfl, h1⟩
theorem inv_hm {v : Value} {h : Nat} (hr : R w I ρ v (.hm h)) : ∃ b s, v = .map (some b) ∧ ρ h = some (b, s) := by cases hr with | hm _ _ _ h1 _ => exact ⟨_, _, rfl, h1⟩
theorem inv_gp {v : Value} {g off : Nat} (hr : R w I ρ v (.gp g off)) : v = .pointer (some ⟨g, off, none⟩) := by cases hr; rfl
theorem inv_fn {v : Value} {f : Nat} {xs : List V} (hr : R w I ρ v (.fn f xs)) : ∃ a, v = .func (.func f) #[] a ∧ RL w I ρ a.toList xs := by cases hr with | fn _ _ _ h1 _ => exact ⟨_, rfl, h1⟩
theorem inv_pt {v : Value} {xs : List V} (hr : R w I ρ v (.pt xs)) : ∃ b o cs, v = .pointer (some ⟨b, o, none⟩) ∧ flatL xs ∧ I b ∧ (∀ (j : Nat) (v : Value), cs[j]? = some v → w.cell? ⟨b, o + j, none⟩ = some v) ∧ RL w I rho0 cs xs := by
  cases hr with | pt _ _ _ _ h0 h1 h2 h3 _ => exact ⟨_, _, _, rfl, h0, h1, h2, h3⟩
theorem inv_hs {v : Value} {h off len : Nat} (hr : R w I ρ v (.hs h off len)) :
    (len = 0 ∧ ∃ a b s, v = .slice a 0 0 ∧ ρ h = some (b, s)) ∨ ∃ b s cap, v = .slice (some ⟨b, off * s, none⟩) len cap ∧ ρ h = some (b, s) ∧ len ≤ cap ∧ (off + cap) * s ≤ csize w b := by
  cases hr with
  | hs _ _ _ _ _ _ h1 h2 h3 _ => exact .inr ⟨_, _, _, rfl, h1, h2, h3⟩
  | hs0 _ _ _ _ _ h1 _ => exact .inl ⟨rfl, _, _, _, rfl, h1⟩
theorem inv_sl {v : Value} {es : List V} {s : Nat} (hr : R w I ρ v (.sl es s)) :
    (es = [] ∧ ∃ a cap, v = .slice a 0 cap) ∨ ∃ b o cap cs, v = .slice (some ⟨b, o, none⟩) es.length cap ∧ es.length ≤ cap ∧ (∀ e ∈ es, e.width = s) ∧ flatL (cellsL es) ∧ I b ∧
      (∀ (j : Nat) (v : Value), cs[j]? = some v → w.cell? ⟨b, o + j, none⟩ = some v) ∧ RL w I rho0 cs (cellsL es) := by
  cases hr with
  | sl0 _ _ _ _ => exact .inl ⟨rfl, _, _, rfl⟩
  | sl1 _ _ _ _ _ _ hc h1 h0 h2 h3 h4 _ => exact .inr ⟨_, _, _, _, rfl, hc, h1, h0, h2, h3, h4⟩

theorem valVs_sound {n : Nat} (h1 : ∀ v x, valV n v = some x → R w I ρ v x) : ∀ vs xs, valV.valVs n vs = some xs → RL w I ρ vs xs := by
  intro vs
  induction vs with
  | nil => intro xs h; simp [valV.valVs] at h; subst h; exact RL.nil
  | cons v r ih =>
    intro xs h
    simp only [valV.valVs] at h
    split at h
    · split at h
      · cases h; exact RL.cons (h1 _ _ ‹_›) (ih _ ‹_›)
      · cases h
    · cases h

theorem valV_sound (n : Nat) : ∀ v x, valV n v = some x → R w I ρ v x := by
  induction n with
  | zero =>
    intro v x h
    cases v with
    | bool b => simp [valV] at h; subst h; exact RL.bool _ RL.nil
    | int k m => simp [valV] at h; subst h; exact RL.int _ _ RL.nil
    | string s => simp [valV] at h; subst h; exact RL.str s.data.toList RL.nil
    | pointer a => cases a with
      | none => simp [valV] at h; subst h; exact RL.nilp RL.nil
      | some a => simp [valV] at h
    | slice a l c =>
      cases a <;> cases l <;> cases c <;> simp [valV] at h
      subst h; exact RL.nils _ RL.nil
    | map r => cases r with
      | none => simp [valV] at h; subst h; exact RL.nilm RL.nil
      | some a => simp [valV] at h
    | nilIface => simp [valV] at h; subst h; exact RL.nili RL.nil
    | nilFunc => simp [valV] at h; subst h; exact RL.nilf RL.nil
    | _ => simp [valV] at h
  | succ n ih =>
    intro v x h
    cases v with
    | bool b => simp [valV] at h; subst h; exact RL.bool _ RL.nil
    | int k m => simp [valV] at h; subst h; exact RL.int _ _ RL.nil
    | string s => simp [valV] at h; subst h; exact RL.str s.data.toList RL.nil
    | pointer a => cases a with
      | none => simp [valV] at h; subst h; exact RL.nilp RL.nil
      | some a => simp [valV] at h
    | slice a l c =>
      cases a <;> cases l <;> cases c <;> simp [valV] at h
      subst h; exact RL.nils _ RL.nil
    | map r => cases r with
      | none => simp [valV] at h; subst h; exact RL.nilm RL.nil
      | some a => simp [valV] at h
    | nilIface => simp [valV] at h; subst h; exact RL.nili RL.nil
    | nilFunc => simp [valV] at h; subst h; exact RL.nilf RL.nil
    | iface t u =>
      simp only [valV, Option.map_eq_some_iff] at h
      obtain ⟨y, hy, rfl⟩ := h
      exact RL.iface _ _ _ (ih _ _ hy) RL.nil
    | agg cs =>
      simp only [valV] at h
      split at h
      · split at h
        · rename_i hf
          cases h
          exact RL.agg _ _ (fun y hy => List.all_eq_true.1 hf y hy) (valVs_sound ih _ _ ‹_›) RL.nil
        · cases h
      · cases h
    | _ => simp [valV] at h

/-- The operands' values. -/
def evX (env : Nat → V) : X → V
  | .t n => env n
  | .c v => v
def EnvR (w : World) (I : Nat → Prop) (ρ : Rho) (a : Act) (env : Nat → V) : Prop := ∀ t, R w I ρ (a.tmps.getD t Go.undef) (env t)

theorem cX_sound {a : Act} {env : Nat → V} (hE : EnvR w I ρ a env) {o : Operand} {x : X} (h : cX o = some x) : R w I ρ (a.eval o) (evX env x) := by
  cases o with
  | tmp t => simp [cX] at h; subst h; exact hE t
  | const v =>
    simp only [cX] at h
    cases hq : valV 4 v with
    | none => simp [hq] at h
    | some y => simp [hq] at h; subst h; exact valV_sound 4 v y hq
  | global g => simp [cX] at h; subst h; exact RL.gp g 0 RL.nil
  | func f => simp [cX] at h; subst h; exact RL.fn f #[] [] RL.nil RL.nil
end

def applyU : List (Nat × Option Obj) → (Nat → Option Obj) → (Nat → Option Obj)
  | [], g => g
  | (h, o) :: r, g => applyU r (upd g h o)
def applyE (g : Nat → Option Obj) (nm : Nat) (e : Eff) : Nat → Option Obj :=
  match e.new with
  | none => applyU e.upds g
  | some o => upd (applyU e.upds g) nm (some o)

/-- An operation has run: what it gave reads as x, and the objects are g'. -/
def Done (w0 : World) (O I0 : Nat → Prop) (g' : Nat → Option Obj) (used' : Nat → Prop) (w : World) (I : Nat → Prop) (ρ : Rho) (res : Result Next) (x : V) : Prop :=
  ∃ r cv w' I' ρ', res = .ok r w' ∧ (r = .value cv ∨ (r = .skip ∧ cv = Go.undef)) ∧ R w' I' ρ' cv x ∧ Rel w0 O I0 I' ρ' g' used' w' ∧ Ext w I ρ w' I' ρ'

section
variable {P : Program} {w0 w : World} {O I0 I : Nat → Prop} {ρ : Rho} {g : Nat → Option Obj} {used : Nat → Prop} {nm : Nat}

theorem Rel.more (hR : Rel w0 O I0 I ρ g used w) (u : Nat → Prop) : Rel w0 O I0 I ρ g (fun h => used h ∨ u h) w :=
  ⟨hR.os, hR.tape, hR.output, hR.size, hR.frame, hR.csz, hR.ilt, hR.isub, fun h p hp => .inl (hR.dom h p hp), hR.obj, hR.inj⟩

theorem Done.pure (hR : Rel w0 O I0 I ρ g used w) {res : Result Next} {v : Value} {x : V} (hr : res = .ok (.value v) w) (hv : R w I ρ v x) :
    Done w0 O I0 (applyE g nm (Eff.val x)) (fun h => used h ∨ h = nm) w I ρ res (Eff.val x).v :=
  ⟨_, _, _, _, _, hr, .inl rfl, hv, hR.more _, Ext.refl _ _ _⟩

theorem run_v {ev : Sem Value} {v : Value} {w w' : World} (h : ev.run P w = .ok v w') : (do pure (Next.value (← ev)) : Sem Next).run P w = .ok (.value v) w' := by
  simp [Sem.run_bind, h]

theorem snd_bin {op : BinOp} {t : TypeId} {x y : Operand} {a b : Value} {p q z : V} (ha : R w I ρ a p) (hb : R w I ρ b q) (hz : binV op p q = some z) :
    ∃ v, (do eqGuard op t x y a b; binOp op t a b : Sem Value).run P w = .ok v w ∧ R w I ρ v z := by
  unfold binV at hz
  split at hz
  · rename_i k m k' m'
    cases inv_int ha; cases inv_int hb
    rw [eqGuard_at_int]
    split at hz
    · rename_i hs
      unfold shiftV at hz
      split at hz
      · split at hz
        · cases hz
          rename_i h0
          refine ⟨_, ?_, RL.int _ _ RL.nil⟩
          simp [binOp, Op.shift, show ¬ m' < 0 by omega]
        · cases hz
      · split at hz
        · cases hz
          rename_i h0
          refine ⟨_, ?_, RL.int _ _ RL.nil⟩
          simp [binOp, Op.shift, show ¬ m' < 0 by omega]
          rw [Int.fdiv_eq_ediv_of_nonneg]
          exact Int.le_of_lt (Int.pow_pos (by decide))
        · cases hz
      · cases hz
    · rename_i hs
      split at hz
      · rename_i hk
        subst hk
        unfold binI at hz
        cases op <;> simp only [isShift, Bool.false_eq_true, not_false_eq_true, not_true_eq_false] at hs hz
        all_goals first | cases hz | skip
        all_goals first | (refine ⟨_, ?_, RL.int _ _ RL.nil⟩; simp [binOp, Op.intArith, Op.intBits, bitsV]; done) | (refine ⟨_, ?_, RL.bool _ RL.nil⟩; simp [binOp, Op.intCmp]; done) | skip
        all_goals (split at hz <;> cases hz; refine ⟨_, ?_, RL.int _ _ RL.nil⟩; simp_all [binOp, Op.intDiv])
      · cases hz
  · rename_i l m
    cases inv_str ha; cases inv_str hb
    rw [eqGuard_at_string]
    unfold binS at hz
    split at hz
    · split at hz
      · cases hz
        refine ⟨_, ?_, RL.str _ RL.nil⟩
        rename_i hle
        have hn : ¬ (9223372036854775807 : Int) < (l.length : Int) + (m.length : Int) := by omega
        have hs1 : (ByteArray.mk l.toArray).size = l.length := by simp [ByteArray.size]
        have hs2 : (ByteArray.mk m.toArray).size = m.length := by simp [ByteArray.size]
        have happ : ByteArray.mk l.toArray ++ ByteArray.mk m.toArray = ByteArray.mk (l ++ m).toArray := by
          apply ByteArray.ext
          simp
        simp [binOp, Op.stringOp, hs1, hs2, hn, happ]
      · cases hz
    · cases hz
      refine ⟨_, ?_, RL.bool _ RL.nil⟩
      simp [binOp, Op.stringOp, ByteArray.toList_mk]
    · cases hz
      refine ⟨_, ?_, RL.bool _ RL.nil⟩
      simp [binOp, Op.stringOp, ByteArray.toList_mk]
    · cases hz
  · cases hz
end
end Go.Dm
set_option linter.unusedSimpArgs false
set_option linter.unusedVariables false
namespace Go.Dm

theorem cells_length (e : V) : e.cells.length = e.width := by cases e <;> simp [V.cells, V.width]
theorem cellsL_nil : cellsL [] = [] := rfl
theorem cellsL_cons (e : V) (es : List V) : cellsL (e :: es) = e.cells ++ cellsL es := by simp [cellsL]
theorem cellsL_append (es fs : List V) : cellsL (es ++ fs) = cellsL es ++ cellsL fs := by simp [cellsL]
theorem cellsL_length {s : Nat} : ∀ {es : List V}, (∀ e ∈ es, e.width = s) → (cellsL es).length = es.length * s
  | [], _ => by simp [cellsL]
  | e :: es, h => by
    rw [cellsL_cons, List.length_append, cells_length, h e (by simp), cellsL_length fun e' h' => h e' (by simp [h'])]
    simp [Nat.add_mul, Nat.add_comm]
theorem cellsL_drop {s : Nat} : ∀ (k : Nat) {es : List V}, (∀ e ∈ es, e.width = s) → cellsL (es.drop k) = (cellsL es).drop (k * s)
  | 0, es, _ => by simp
  | k + 1, [], _ => by simp [cellsL]
  | k + 1, e :: es, h => by
    rw [List.drop_succ_cons, cellsL_drop k fun e' h' => h e' (by simp [h']), cellsL_cons]
    have hl : e.cells.length = s := (cells_length e).trans (h e (by simp))
    rw [show (k + 1) * s = s + k * s by rw [Nat.add_mul, Nat.one_mul, Nat.add_comm], ← List.drop_drop, List.drop_left' hl]
theorem cellsL_take {s : Nat} : ∀ (k : Nat) {es : List V}, (∀ e ∈ es, e.width = s) → cellsL (es.take k) = (cellsL es).take (k * s)
  | 0, es, _ => by simp [cellsL]
  | k + 1, [], _ => by simp [cellsL]
  | k + 1, e :: es, h => by
    rw [List.take_succ_cons, cellsL_cons, cellsL_take k fun e' h' => h e' (by simp [h']), cellsL_cons]
    have hl : e.cells.length = s := (cells_length e).trans (h e (by simp))
    have e0 : e.cells.take ((k + 1) * s) = e.cells := List.take_of_length_le (by rw [hl, Nat.succ_mul]; omega)
    have e2 : (k + 1) * s - s = k * s := by rw [Nat.succ_mul]; omega
    rw [List.take_append, hl, e0, e2]
theorem cellsL_at {s : Nat} {es : List V} (h : ∀ e ∈ es, e.width = s) {i : Nat} {e : V} (he : es[i]? = some e) : ((cellsL es).drop (i * s)).take s = e.cells := by
  have h2 := cellsL_take 1 (fun e' h' => h e' (List.mem_of_mem_drop h') : ∀ e ∈ es.drop i, e.width = s)
  rw [Nat.one_mul] at h2
  rw [← cellsL_drop i h, ← h2]
  have : (es.drop i).take 1 = [e] := by
    obtain ⟨hi, hh⟩ := List.getElem?_eq_some_iff.1 he
    rw [List.drop_eq_getElem_cons hi, hh]
    simp
  rw [this, cellsL_cons]
  simp [cellsL]
theorem cellsL_set {s : Nat} {es : List V} (h : ∀ e ∈ es, e.width = s) {i : Nat} (hi : i < es.length) {x : V} (hx : x.width = s) :
    cellsL (es.set i x) = spliceL (cellsL es) (i * s) x.cells := by
  have hl : x.cells.length = s := (cells_length x).trans hx
  have e1 : es.set i x = es.take i ++ x :: es.drop (i + 1) := by
    rw [List.set_eq_take_append_cons_drop, if_pos hi]
  rw [e1, cellsL_append, cellsL_cons, cellsL_take i h, cellsL_drop (i + 1) h, spliceL, hl, List.append_assoc]
  congr 3
  rw [Nat.add_mul]; omega
theorem mem_width_drop {s : Nat} {es : List V} (h : ∀ e ∈ es, e.width = s) (k : Nat) : ∀ e ∈ es.drop k, e.width = s := fun e he => h e (List.mem_of_mem_drop he)
theorem mem_width_take {s : Nat} {es : List V} (h : ∀ e ∈ es, e.width = s) (k : Nat) : ∀ e ∈ es.take k, e.width = s := fun e he => h e (List.mem_of_mem_take he)
theorem mem_width_set {s : Nat} {es : List V} (h : ∀ e ∈ es, e.width = s) (i : Nat) {x : V} (hx : x.width = s) : ∀ e ∈ es.set i x, e.width = s := fun e he => by
  rcases List.mem_or_eq_of_mem_set he with h' | rfl
  · exact h e h'
  · exact hx

/-- Cells of a block, as a list from a place on. -/
def At (w : World) (b o : Nat) (cs : List Value) : Prop := ∀ (j : Nat) (v : Value), cs[j]? = some v → w.cell? ⟨b, o + j, none⟩ = some v
theorem At.drop {w : World} {b o : Nat} {cs : List Value} (h : At w b o cs) (k : Nat) : At w b (o + k) (cs.drop k) := fun j v hv => by
  rw [List.getElem?_drop] at hv
  rw [Nat.add_assoc]
  exact h _ _ hv
theorem At.take {w : World} {b o : Nat} {cs : List Value} (h : At w b o cs) (k : Nat) : At w b o (cs.take k) := fun j v hv => by
  rw [List.getElem?_take] at hv
  split at hv
  · exact h _ _ hv
  · cases hv
theorem at_of_block {w : World} {b : Nat} {cs : Array Value} {e : TypeId} {fr : Nat × Nat} (h : w.heap[b]? = some (.cells cs e fr)) : At w b 0 cs.toList := fun j v hv => by
  simp only [World.cell?, h]
  simpa using hv
theorem at_take {w : World} {b : Nat} {cs : Array Value} {e : TypeId} {fr : Nat × Nat} (h : w.heap[b]? = some (.cells cs e fr)) (n : Nat) : At w b 0 (cs.toList.take n) := (at_of_block h).take n

section
variable {P : Program} {w0 w : World} {O I0 I : Nat → Prop} {ρ : Rho} {g : Nat → Option Obj} {used : Nat → Prop} {nm : Nat}

theorem viewL_sound {s : Nat} {x : V} {v : Value} {es : List V} (hx : viewL g s x = some es) (hv : R w I ρ v x) (hR : Rel w0 O I0 I ρ g used w) :
    ∃ a cap cs, v = .slice a es.length cap ∧ (∀ e ∈ es, e.width = s) ∧ flatL (cellsL es) ∧ RL w I rho0 cs (cellsL es) ∧ (es = [] ∨ ∃ b o, a = some ⟨b, o, none⟩ ∧ At w b o cs) := by
  unfold viewL at hx
  split at hx
  · cases hx
    obtain ⟨a, rfl⟩ := inv_nils hv
    exact ⟨a, 0, [], rfl, by simp, by simp [flatL, cellsL], RL.nil, .inl rfl⟩
  · rename_i es' s'
    split at hx
    · rename_i hs
      cases hx
      rcases inv_sl hv with ⟨rfl, a, cap, rfl⟩ | ⟨b, o, cap, cs, rfl, hc, h1, h0, h2, h3, h4⟩
      · exact ⟨a, cap, [], rfl, by simp, by simp [flatL, cellsL], RL.nil, .inl rfl⟩
      · rcases hs with rfl | rfl
        · exact ⟨_, cap, cs, rfl, h1, h0, h4, .inr ⟨b, o, rfl, h3⟩⟩
        · exact ⟨_, cap, cs, rfl, by simp, by simp [flatL, cellsL], h4, .inl rfl⟩
    · cases hx
  · rename_i h off len
    split at hx
    · rename_i es' s' hg
      split at hx
      · rename_i hs
        subst hs
        split at hx
        · rename_i hle
          cases hx
          have hlen : ((es'.drop off).take len).length = len := by simp; omega
          obtain ⟨b, s', q1, q2, q3, q4, q5, q0, cs, e, fr, q6, q7, q8⟩ := hR.obj h _ hg
          subst q4
          rcases inv_hs hv with ⟨rfl, a, b', s'', rfl, r1⟩ | ⟨b', s'', cap, rfl, r1, r2, r3⟩
          · exact ⟨a, 0, [], by simp, by simp, by simp [flatL, cellsL], by simp [cellsL]; exact RL.nil, .inl (by simp)⟩
          · rw [q1] at r1; cases r1
            have hw := mem_width_take (mem_width_drop q5 off) len
            refine ⟨_, cap, ((cs.toList.take (cellsL es').length).drop (off * s')).take (len * s'), by rw [hlen], hw, ?_, ?_, .inr ⟨b, off * s', rfl, ?_⟩⟩
            · rw [cellsL_take _ (mem_width_drop q5 off), cellsL_drop _ q5]
              exact fun y hy => q0 y (List.mem_of_mem_drop (List.mem_of_mem_take hy))
            · rw [cellsL_take _ (mem_width_drop q5 off), cellsL_drop _ q5]
              exact (q8.drop _).take _
            · have := ((at_take q6 (cellsL es').length).drop (off * s')).take (len * s')
              rwa [Nat.zero_add] at this
        · cases hx
      · cases hx
    · cases hx
  · cases hx

theorem run_isAgg {t : TypeId} {a : Bool} (h : aggT P t = some a) (w : World) : (isAgg t).run P w = .ok a w := by
  unfold aggT at h
  cases hu : P.underlying t with
  | none => simp [hu] at h
  | some d =>
    simp [hu] at h
    unfold isAgg
    rw [Sem.run_bind, run_underlying hu w]
    cases d <;> simp_all
theorem run_sizeOf {t : TypeId} {n : Nat} (h : sizT P t = some n) (w : World) : (sizeOf t).run P w = .ok n w := by
  unfold sizT at h
  cases hi : P.info? t with
  | none => simp [hi] at h
  | some i =>
    simp [hi] at h
    subst h
    simp [sizeOf, typeInfo, hi]
theorem run_loadVar_at {t : TypeId} {n b o : Nat} {cs : List Value} {agg : Bool} (ha : aggT P t = some agg) (hn : sizT P t = some n) (hl : cs.length = n) (hc : At w b o cs) (h1 : agg = false → n = 1) :
    (loadVar t ⟨b, o, none⟩).run P w = .ok (if agg then .agg cs.toArray else cs.headD Go.undef) w := by
  have hcs : ∀ j v, cs[j]? = some v → w.cell? ((⟨b, o, none⟩ : Addr).add j) = some v := fun j v hv => by rw [Addr.add_lit]; exact hc j v hv
  have hld := run_loadCells_list (P := P) w ⟨b, o, none⟩ cs hcs
  rw [hl] at hld
  cases agg with
  | true => simp [loadVar, Sem.run_bind, run_isAgg ha, run_sizeOf hn, hld]
  | false =>
    have h1 := h1 rfl
    subst h1
    match cs, hl with
    | [c], _ =>
      have := hc 0 c rfl
      simp only [Nat.add_zero] at this
      simp [loadVar, Sem.run_bind, run_isAgg ha, load, Sem.run, this]

/-- Loading: cells that read as xs. -/
theorem cutAs_sound {t : TypeId} {n b o f : Nat} {cs : List Value} {xs : List V} {agg : Bool} {x : V} (ha : aggT P t = some agg) (hn : sizT P t = some n) (hc : At w b o cs) (hfl : flatL xs) (hr : RL w I ρ cs xs)
    (hx : cutAs agg f n xs = some x) : ∃ v, (loadVar t ⟨b, o + f, none⟩).run P w = .ok v w ∧ R w I ρ v x := by
  unfold cutAs at hx
  have hl := hr.length
  split at hx
  · rename_i hag
    subst hag
    split at hx
    · rename_i hle
      cases hx
      refine ⟨_, run_loadVar_at ha hn (cs := (cs.drop f).take n) (by simp; omega) ((hc.drop f).take n) (by simp), ?_⟩
      simp only [if_true]
      exact RL.agg _ _ (fun y hy => hfl y (List.mem_of_mem_drop (List.mem_of_mem_take hy))) (by simpa using (hr.drop f).take n) RL.nil
    · cases hx
  · rename_i hag
    simp only [Bool.not_eq_true] at hag
    subst hag
    split at hx
    · rename_i h1
      obtain ⟨v, hv, hvr⟩ := hr.get hx
      refine ⟨v, ?_, hvr⟩
      have hcf := (hc.drop f).take 1
      have e1 : (cs.drop f).take 1 = [v] := by
        obtain ⟨hi, hh⟩ := List.getElem?_eq_some_iff.1 hv
        rw [List.drop_eq_getElem_cons hi, hh]
        simp
      rw [e1] at hcf
      have := run_loadVar_at ha hn (cs := [v]) (by simp; omega) hcf (fun _ => h1)
      simpa using this
    · cases hx
end
end Go.Dm
set_option linter.unusedSimpArgs false
set_option linter.unusedVariables false
namespace Go.Dm

def freezeI (I : Nat → Prop) (ρ : Rho) (ks : List Nat) : Nat → Prop := fun b => I b ∨ ∃ h ∈ ks, ∃ s, ρ h = some (b, s)

theorem applyU_kills (ks : List Nat) : ∀ (g : Nat → Option Obj) (h : Nat), applyU (kills ks) g h = if h ∈ ks then none else g h := by
  induction ks with
  | nil => intro g h; simp [kills, applyU]
  | cons k ks ih =>
    intro g h
    have : applyU (kills (k :: ks)) g = applyU (kills ks) (upd g k none) := rfl
    rw [this, ih]
    by_cases h1 : h ∈ ks
    · simp [h1]
    · by_cases h2 : h = k
      · subst h2; simp [upd]
      · simp [h1, h2, upd]

section
variable {P : Program} {w0 w : World} {O I0 I : Nat → Prop} {ρ : Rho} {g : Nat → Option Obj} {used : Nat → Prop} {nm : Nat}

theorem Rel.freezes (hR : Rel w0 O I0 I ρ g used w) (ks : List Nat) (hk : ∀ h ∈ ks, ∃ o, g h = some o) :
    Rel w0 O I0 (freezeI I ρ ks) ρ (applyU (kills ks) g) used w ∧ Ext w I ρ w (freezeI I ρ ks) ρ := by
  have hx : Ext w I ρ w (freezeI I ρ ks) ρ := ⟨fun _ _ => rfl, fun _ => Nat.le_refl _, fun _ h => .inl h, fun _ _ h => h⟩
  have hlive : ∀ h o, applyU (kills ks) g h = some o → h ∉ ks ∧ g h = some o := fun h o ho => by
    rw [applyU_kills] at ho
    split at ho
    · cases ho
    · exact ⟨‹_›, ho⟩
  refine ⟨⟨hR.os, hR.tape, hR.output, hR.size, hR.frame, hR.csz, fun b hb => ?_, fun b hb => ?_, hR.dom, fun h o ho => ?_, fun h h' o o' b s b' s' g1 g2 => hR.inj h h' o o' b s b' s' (hlive _ _ g1).2 (hlive _ _ g2).2⟩, hx⟩
  · rcases hb with hb | ⟨h, hh, s, hr⟩
    · exact hR.ilt b hb
    · obtain ⟨o, ho⟩ := hk h hh
      obtain ⟨b', s', q1, _, _, q4⟩ := hR.obj h o ho
      rw [hr] at q1; cases q1
      exact q4.lt
  · rcases hb with hb | ⟨h, hh, s, hr⟩
    · exact hR.isub b hb
    · obtain ⟨o, ho⟩ := hk h hh
      obtain ⟨b', s', q1, _, q3, _⟩ := hR.obj h o ho
      rw [hr] at q1; cases q1
      exact .inr q3
  · obtain ⟨hn, hg⟩ := hlive h o ho
    obtain ⟨b, s, q1, q2, q3, q4⟩ := hR.obj h o hg
    refine ⟨b, s, q1, fun hI => ?_, q3, q4.ext hx rfl⟩
    rcases hI with hI | ⟨h', hh', s', hr'⟩
    · exact q2 hI
    · obtain ⟨o', ho'⟩ := hk h' hh'
      exact hR.inj h h' o o' b s b s' hg ho' q1 hr' (fun e => hn (e ▸ hh')) rfl

theorem deep_sound (hR : Rel w0 O I0 I ρ g used w) (n : Nat) : ∀ x v y ks, deep g n x = some (y, ks) → R w I ρ v x →
    (∀ h ∈ ks, ∃ o, g h = some o) ∧ (y.width = x.width ∧ y.sto = true ∧ (x.one = true → y.one = true)) ∧ ∀ I'' : Nat → Prop, (∀ b, I b → I'' b) → (∀ h ∈ ks, ∀ b s, ρ h = some (b, s) → I'' b) → R w I'' rho0 v y := by
  have lists : ∀ m, (∀ x v y ks, deep g m x = some (y, ks) → R w I ρ v x →
      (∀ h ∈ ks, ∃ o, g h = some o) ∧ (y.width = x.width ∧ y.sto = true ∧ (x.one = true → y.one = true)) ∧ ∀ I'' : Nat → Prop, (∀ b, I b → I'' b) → (∀ h ∈ ks, ∀ b s, ρ h = some (b, s) → I'' b) → R w I'' rho0 v y) →
      ∀ xs vs ys ks, deepW (deep g m) xs = some (ys, ks) → RL w I ρ vs xs →
      (∀ h ∈ ks, ∃ o, g h = some o) ∧ (ys.length = xs.length ∧ (flatL xs → flatL ys)) ∧ ∀ I'' : Nat → Prop, (∀ b, I b → I'' b) → (∀ h ∈ ks, ∀ b s, ρ h = some (b, s) → I'' b) → RL w I'' rho0 vs ys := by
    intro m ih xs
    induction xs with
    | nil =>
      intro vs ys ks h hr
      simp [deepW] at h
      obtain ⟨rfl, rfl⟩ := h
      cases hr
      exact ⟨by simp, ⟨rfl, fun h => h⟩, fun _ _ _ => RL.nil⟩
    | cons x xs ihx =>
      intro vs ys ks h hr
      cases vs with
      | nil => cases hr
      | cons v vs =>
        simp only [deepW] at h
        split at h
        · rename_i y k hy
          split at h
          · rename_i ys' ks' hys
            cases h
            obtain ⟨a1, a2, a3⟩ := ih _ _ _ _ hy hr.cons_split.1
            obtain ⟨b1, b2, b3⟩ := ihx _ _ _ hys hr.cons_split.2
            refine ⟨fun h hh => ?_, ⟨by simp [b2.1], fun hf z hz => ?_⟩, fun I'' h1 h2 => RL.cons (a3 I'' h1 fun h hh => h2 h (by simp [hh])) (b3 I'' h1 fun h hh => h2 h (by simp [hh]))⟩
            · rcases List.mem_append.1 hh with hh | hh
              · exact a1 h hh
              · exact b1 h hh
            · rcases List.mem_cons.1 hz with rfl | hz
              · exact a2.2.2 (hf x (by simp))
              · exact b2.2 (fun z hz => hf z (by simp [hz])) z hz
          · cases h
        · cases h
  have scal : ∀ x v y (ks : List Nat), (y, ks) = (x, ([] : List Nat)) → x.sto = true → R w I ρ v x → (∀ I'' : Nat → Prop, (∀ b, I b → I'' b) → R w I'' rho0 v x) →
      (∀ h ∈ ks, ∃ o, g h = some o) ∧ (y.width = x.width ∧ y.sto = true ∧ (x.one = true → y.one = true)) ∧ ∀ I'' : Nat → Prop, (∀ b, I b → I'' b) → (∀ h ∈ ks, ∀ b s, ρ h = some (b, s) → I'' b) → R w I'' rho0 v y := by
    intro x v y ks h hs hr h1
    cases h
    exact ⟨by simp, ⟨rfl, hs, fun h => h⟩, fun I'' a _ => h1 I'' a⟩
  have hsl : ∀ h off len v y ks, (match g h with
    | some (.row es s) => if off + len ≤ es.length then some (V.sl ((es.drop off).take len) s, [h]) else none
    | _ => none) = some (y, ks) → R w I ρ v (.hs h off len) →
      (∀ h ∈ ks, ∃ o, g h = some o) ∧ (y.width = (V.hs h off len).width ∧ y.sto = true ∧ ((V.hs h off len).one = true → y.one = true)) ∧ ∀ I'' : Nat → Prop, (∀ b, I b → I'' b) → (∀ h ∈ ks, ∀ b s, ρ h = some (b, s) → I'' b) → R w I'' rho0 v y := by
    intro h off len v y ks hd hr
    split at hd
    · rename_i es s hg
      split at hd
      · rename_i hle
        cases hd
        refine ⟨fun h' hh => ⟨_, by simp at hh; subst hh; exact hg⟩, ⟨rfl, rfl, fun _ => rfl⟩, fun I'' h1 h2 => ?_⟩
        obtain ⟨b, s', q1, q2, q3, q4, q5, q0, cs, e, fr, q6, q7, q8⟩ := hR.obj h _ hg
        subst q4
        rcases inv_hs hr with ⟨rfl, a, b', s'', rfl, r1⟩ | ⟨b', s'', cap, rfl, r1, r2, r3⟩
        · simp only [List.take_zero]; exact RL.sl0 _ _ _ RL.nil
        · rw [q1] at r1; cases r1
          have hlen : ((es.drop off).take len).length = len := by simp; omega
          have hw := mem_width_take (mem_width_drop q5 off) len
          have hat := ((at_take q6 (cellsL es).length).drop (off * s)).take (len * s)
          rw [Nat.zero_add] at hat
          have hrl : RL w I'' rho0 (((cs.toList.take (cellsL es).length).drop (off * s)).take (len * s)) (cellsL ((es.drop off).take len)) := by
            rw [cellsL_take _ (mem_width_drop q5 off), cellsL_drop _ q5]
            exact (((q8.drop _).take _).mono (fun _ _ => rfl) (fun _ => Nat.le_refl _) h1 (fun _ _ h => h))
          have hf : flatL (cellsL ((es.drop off).take len)) := by
            rw [cellsL_take _ (mem_width_drop q5 off), cellsL_drop _ q5]
            exact fun y hy => q0 y (List.mem_of_mem_drop (List.mem_of_mem_take hy))
          have := RL.sl1 (w := w) (I := I'') (ρ := rho0) b (off * s) cap s ((es.drop off).take len) _ (by rw [hlen]; exact r2) hw hf (h2 h (by simp) _ _ q1) hat hrl RL.nil
          rwa [hlen] at this
      · cases hd
    · cases hd
  induction n with
  | zero => intro x v y ks h hr; simp [deep] at h
  | succ n ih =>
    intro x v y ks h hr
    cases x with
    | undef => simp [deep] at h
    | bool b => simp only [deep, Option.some.injEq] at h; cases inv_bool hr; exact scal _ _ _ _ h.symm rfl hr fun _ _ => RL.bool _ RL.nil
    | int k m => simp only [deep, Option.some.injEq] at h; cases inv_int hr; exact scal _ _ _ _ h.symm rfl hr fun _ _ => RL.int _ _ RL.nil
    | str l => simp only [deep, Option.some.injEq] at h; cases inv_str hr; exact scal _ _ _ _ h.symm rfl hr fun _ _ => RL.str _ RL.nil
    | nilp => simp only [deep, Option.some.injEq] at h; cases inv_nilp hr; exact scal _ _ _ _ h.symm rfl hr fun _ _ => RL.nilp RL.nil
    | nils => simp only [deep, Option.some.injEq] at h; obtain ⟨a, rfl⟩ := inv_nils hr; exact scal _ _ _ _ h.symm rfl hr fun _ _ => RL.nils _ RL.nil
    | nilm => simp only [deep, Option.some.injEq] at h; cases inv_nilm hr; exact scal _ _ _ _ h.symm rfl hr fun _ _ => RL.nilm RL.nil
    | nili => simp only [deep, Option.some.injEq] at h; cases inv_nili hr; exact scal _ _ _ _ h.symm rfl hr fun _ _ => RL.nili RL.nil
    | nilf => simp only [deep, Option.some.injEq] at h; cases inv_nilf hr; exact scal _ _ _ _ h.symm rfl hr fun _ _ => RL.nilf RL.nil
    | sl es s =>
      simp only [deep, Option.some.injEq] at h
      refine scal _ _ _ _ h.symm rfl hr fun I'' h1 => ?_
      rcases inv_sl hr with ⟨rfl, a, cap, rfl⟩ | ⟨b, o, cap, cs, rfl, ac, a1, a0, a2, a3, a4⟩
      · exact RL.sl0 _ _ _ RL.nil
      · exact RL.sl1 _ _ _ _ _ cs ac a1 a0 (h1 _ a2) a3 (a4.mono (fun _ _ => rfl) (fun _ => Nat.le_refl _) h1 (fun _ _ h => h)) RL.nil
    | pt cs =>
      simp only [deep, Option.some.injEq] at h
      refine scal _ _ _ _ h.symm rfl hr fun I'' h1 => ?_
      obtain ⟨b, o, cs, rfl, a0, a1, a2, a3⟩ := inv_pt hr
      exact RL.pt _ _ _ cs a0 (h1 _ a1) a2 (a3.mono (fun _ _ => rfl) (fun _ => Nat.le_refl _) h1 (fun _ _ h => h)) RL.nil
    | gp a b => simp only [deep, Option.some.injEq] at h; cases inv_gp hr; exact scal _ _ _ _ h.symm rfl hr fun _ _ => RL.gp _ _ RL.nil
    | hs h0 off len => simp only [deep] at h; exact hsl h0 off len v y ks h hr
    | hp h0 i f =>
      simp only [deep] at h
      split at h
      · rename_i cs hg
        split at h
        · rename_i hif
          obtain ⟨rfl, rfl⟩ := hif
          cases hd : deepW (deep g n) cs with
          | none => simp [hd] at h
          | some p =>
            simp only [hd, Option.map_some, Option.some.injEq, Prod.mk.injEq] at h
            obtain ⟨rfl, rfl⟩ := h
            obtain ⟨b, s, q1, q2, q3, q0, cs', e, fr, q6, q7, q8⟩ := hR.obj h0 _ hg
            obtain ⟨b', s', rfl, r1⟩ := inv_hp hr
            rw [q1] at r1; cases r1
            obtain ⟨a1, a2, a3⟩ := lists n ih _ _ _ _ hd q8
            refine ⟨fun h' hh => ?_, ⟨rfl, rfl, fun _ => rfl⟩, fun I'' h1 h2 => ?_⟩
            · rcases List.mem_cons.1 hh with rfl | hh
              · exact ⟨_, hg⟩
              · exact a1 h' hh
            · have hat := at_of_block q6
              have e0 : 0 * s + 0 = 0 := by omega
              rw [e0]
              exact RL.pt b 0 _ _ (a2.2 q0) (h2 h0 (by simp) _ _ q1) hat (a3 I'' h1 fun h hh => h2 h (by simp [hh])) RL.nil
        · cases h
      · cases h
    | iface t x =>
      simp only [deep] at h
      cases hd : deep g n x with
      | none => simp [hd] at h
      | some p =>
        simp only [hd, Option.map_some, Option.some.injEq, Prod.mk.injEq] at h
        obtain ⟨rfl, rfl⟩ := h
        obtain ⟨u, rfl, hu⟩ := inv_iface hr
        obtain ⟨a1, a2, a3⟩ := ih _ _ _ _ hd hu
        exact ⟨a1, ⟨rfl, rfl, fun _ => rfl⟩, fun I'' h1 h2 => RL.iface _ _ _ (a3 I'' h1 h2) RL.nil⟩
    | agg cs =>
      simp only [deep] at h
      cases hd : deepW (deep g n) cs with
      | none => simp [hd] at h
      | some p =>
        simp only [hd, Option.map_some, Option.some.injEq, Prod.mk.injEq] at h
        obtain ⟨rfl, rfl⟩ := h
        obtain ⟨a, rfl, hfl, hu⟩ := inv_agg hr
        obtain ⟨a1, a2, a3⟩ := lists n ih _ _ _ _ hd hu
        exact ⟨a1, ⟨a2.1, rfl, fun h => by simp [V.one] at h⟩, fun I'' h1 h2 => RL.agg _ _ (a2.2 hfl) (a3 I'' h1 h2) RL.nil⟩
    | tup vs => simp [deep] at h
    | hm h0 => simp [deep] at h
    | fn f cs => simp [deep] at h

theorem freezeI_of (I : Nat → Prop) (ρ : Rho) (ks : List Nat) : (∀ b, I b → freezeI I ρ ks b) ∧ (∀ h ∈ ks, ∀ b s, ρ h = some (b, s) → freezeI I ρ ks b) :=
  ⟨fun _ h => .inl h, fun h hh b s hr => .inr ⟨h, hh, s, hr⟩⟩

theorem R_cells {v : Value} {x : V} (h : R w I ρ v x) (hx : x.sto = true) : RL w I ρ v.cells.toList x.cells ∧ flatL x.cells := by
  cases h with
  | agg a ys h0 h1 _ => exact ⟨h1, h0⟩
  | undef v _ => simp [V.sto] at hx
  | tup a ys _ _ => simp [V.sto] at hx
  | bool b _ => exact ⟨RL.bool _ RL.nil, by simp [flatL, V.cells, V.one]⟩
  | int k n _ => exact ⟨RL.int _ _ RL.nil, by simp [flatL, V.cells, V.one]⟩
  | str l _ => exact ⟨RL.str _ RL.nil, by simp [flatL, V.cells, V.one]⟩
  | nilp _ => exact ⟨RL.nilp RL.nil, by simp [flatL, V.cells, V.one]⟩
  | nils a _ => exact ⟨RL.nils _ RL.nil, by simp [flatL, V.cells, V.one]⟩
  | nilm _ => exact ⟨RL.nilm RL.nil, by simp [flatL, V.cells, V.one]⟩
  | nili _ => exact ⟨RL.nili RL.nil, by simp [flatL, V.cells, V.one]⟩
  | nilf _ => exact ⟨RL.nilf RL.nil, by simp [flatL, V.cells, V.one]⟩
  | iface t v x h1 _ => exact ⟨RL.iface _ _ _ h1 RL.nil, by simp [flatL, V.cells, V.one]⟩
  | sl0 a c s _ => exact ⟨RL.sl0 _ _ _ RL.nil, by simp [flatL, V.cells, V.one]⟩
  | sl1 b o c s es cs hc h1 h0 h2 h3 h4 _ => exact ⟨RL.sl1 _ _ _ _ _ _ hc h1 h0 h2 h3 h4 RL.nil, by simp [flatL, V.cells, V.one]⟩
  | pt b o ys cs h0 h1 h2 h3 _ => exact ⟨RL.pt _ _ _ _ h0 h1 h2 h3 RL.nil, by simp [flatL, V.cells, V.one]⟩
  | hs h off len b s cap h1 h2 h3 _ => exact ⟨RL.hs _ _ _ _ _ _ h1 h2 h3 RL.nil, by simp [flatL, V.cells, V.one]⟩
  | hs0 a h off b s h1 _ => exact ⟨RL.hs0 _ _ _ _ _ h1 RL.nil, by simp [flatL, V.cells, V.one]⟩
  | hp h i f b s h1 _ => exact ⟨RL.hp _ _ _ _ _ h1 RL.nil, by simp [flatL, V.cells, V.one]⟩
  | hm h b s h1 _ => exact ⟨RL.hm _ _ _ h1 RL.nil, by simp [flatL, V.cells, V.one]⟩
  | gp g off _ => exact ⟨RL.gp _ _ RL.nil, by simp [flatL, V.cells, V.one]⟩
  | fn f a ys h1 _ => exact ⟨RL.fn _ _ _ h1 RL.nil, by simp [flatL, V.cells, V.one]⟩

/-- What reads as one cell is one cell. -/
theorem R_one {v : Value} {x : V} (h : R w I ρ v x) (hx : x.one = true) : v.oneCell' = true := by
  cases h with
  | agg a ys h0 h1 _ => simp [V.one] at hx
  | undef v _ => simp [V.one] at hx
  | tup a ys _ _ => simp [V.one] at hx
  | _ => rfl
theorem RL_one {vs : List Value} {xs : List V} (h : RL w I ρ vs xs) (hx : flatL xs) : ∀ v ∈ vs, v.oneCell' = true := by
  induction vs generalizing xs with
  | nil => simp
  | cons v vs ih =>
    cases xs with
    | nil => cases h
    | cons x xs =>
      intro u hu
      rcases List.mem_cons.1 hu with rfl | hu
      · exact R_one h.cons_split.1 (hx x (by simp))
      · exact ih h.cons_split.2 (fun y hy => hx y (by simp [hy])) u hu
end
end Go.Dm
set_option linter.unusedSimpArgs false
set_option linter.unusedVariables false
namespace Go.Dm

/-- What is known of the types told as whole numbers' errors. -/
def EqTypes (P : Program) (ts : List TypeId) : Prop := ∀ t, ts.contains t = true → ∃ i k, P.info? t = some i ∧ i.comparable = true ∧ P.underlying t = some (.int k)

section
variable {P : Program} {w0 w : World} {O I0 I : Nat → Prop} {ρ : Rho} {g : Nat → Option Obj} {used : Nat → Prop} {nm : Nat}

theorem snd_un {op : UnOp} {a : Value} {p z : V} (ha : R w I ρ a p) (hz : unV op p = some z) : ∃ v, (Op.unary op a).run P w = .ok v w ∧ R w I ρ v z := by
  unfold unV at hz
  split at hz
  · cases inv_bool ha
    split at hz
    · cases hz; exact ⟨_, by simp [Op.unary], RL.bool _ RL.nil⟩
    · cases hz
  · cases inv_int ha
    split at hz
    · cases hz; exact ⟨_, by simp [Op.unary, Op.intArith], RL.int _ _ RL.nil⟩
    · cases hz; exact ⟨_, by simp [Op.unary, Op.intBits, bitsV], RL.int _ _ RL.nil⟩
    · cases hz
  · cases hz

/-- The kinds of types whose values are compared. -/
def kdOk : Nat → TypeDesc → Prop
  | 0, .bool => True
  | 1, .pointer _ => True
  | 2, .map _ _ => True
  | 3, .interface _ => True
  | _, _ => False

theorem equal_run {t : TypeId} {a b : Value} {r : Bool} (h : ∀ n, (Op.equalIn (n + 2) t a b).run P w = .ok r w) : (Op.equal t a b).run P w = .ok r w := h 9998

theorem eqv_run {neg : Bool} {t : TypeId} {x y : Operand} {a b : Value} {r : Bool} (h1 : ∀ op, eqGuard op t x y a b = pure ())
    (h2 : binOp .eql t a b = (do pure (.bool (← Op.equal t a b)))) (h3 : binOp .neq t a b = (do pure (.bool (!(← Op.equal t a b)))))
    (h : ∀ n, (Op.equalIn (n + 2) t a b).run P w = .ok r w) :
    (do eqGuard (if neg then .neq else .eql) t x y a b; binOp (if neg then .neq else .eql) t a b : Sem Value).run P w = .ok (.bool (if neg then !r else r)) w := by
  have he := equal_run h
  cases neg
  · simp only [Bool.false_eq_true, if_false, h1, h2]; simp [he]
  · simp only [if_true, h1, h3]; simp [he]

theorem snd_eqv {kd : Nat} {neg lit : Bool} {ts : List TypeId} {t : TypeId} {x y : Operand} {a b : Value} {p q : V} {r : Bool} (hts : EqTypes P ts) (ha : R w I ρ a p) (hb : R w I ρ b q)
    (hlit : lit = true → (∃ c, x = .const c) ∨ (∃ c, y = .const c)) {d : TypeDesc} (hd : P.underlying t = some d)
    (hdd : kdOk kd d)
    (hz : eqV kd lit ts p q = some r) :
    (do eqGuard (if neg then .neq else .eql) t x y a b; binOp (if neg then .neq else .eql) t a b : Sem Value).run P w = .ok (.bool (if neg then !r else r)) w := by
  have hu := run_underlying hd
  unfold kdOk at hdd
  split at hdd
  · simp only [eqV] at hz
    split at hz
    · cases inv_bool ha; cases inv_bool hb
      cases hz
      exact eqv_run (fun op => eqGuard_at_bool ..) rfl rfl fun n => by rw [Op.equalIn]; simp [hu]
    · cases hz
  · simp only [eqV] at hz
    split at hz
    · cases inv_nilp ha; cases inv_nilp hb
      cases hz
      exact eqv_run (fun op => eqGuard_at_pointer ..) rfl rfl fun n => by rw [Op.equalIn]; simp [hu]
    · cases inv_nilp ha; obtain ⟨b', s', rfl, _⟩ := inv_hp hb
      cases hz
      exact eqv_run (fun op => eqGuard_at_pointer ..) rfl rfl fun n => by rw [Op.equalIn]; simp [hu]
    · cases inv_nilp hb; obtain ⟨b', s', rfl, _⟩ := inv_hp ha
      cases hz
      exact eqv_run (fun op => eqGuard_at_pointer ..) rfl rfl fun n => by rw [Op.equalIn]; simp [hu]
    · cases inv_nilp ha; obtain ⟨b', s', _, rfl, _⟩ := inv_pt hb
      cases hz
      exact eqv_run (fun op => eqGuard_at_pointer ..) rfl rfl fun n => by rw [Op.equalIn]; simp [hu]
    · cases inv_nilp hb; obtain ⟨b', s', _, rfl, _⟩ := inv_pt ha
      cases hz
      exact eqv_run (fun op => eqGuard_at_pointer ..) rfl rfl fun n => by rw [Op.equalIn]; simp [hu]
    · cases hz
  · simp only [eqV] at hz
    split at hz
    · cases inv_nilm ha; cases inv_nilm hb
      cases hz
      exact eqv_run (fun op => eqGuard_at_map ..) rfl rfl fun n => by rw [Op.equalIn]; simp [hu]
    · cases inv_nilm ha; obtain ⟨b', s', rfl, _⟩ := inv_hm hb
      cases hz
      exact eqv_run (fun op => eqGuard_at_map ..) rfl rfl fun n => by rw [Op.equalIn]; simp [hu]
    · cases inv_nilm hb; obtain ⟨b', s', rfl, _⟩ := inv_hm ha
      cases hz
      exact eqv_run (fun op => eqGuard_at_map ..) rfl rfl fun n => by rw [Op.equalIn]; simp [hu]
    · cases hz
  · simp only [eqV] at hz
    split at hz
    · cases inv_nili ha; cases inv_nili hb
      split at hz
      · cases hz
        rcases hlit ‹_› with ⟨c, rfl⟩ | ⟨c, rfl⟩
        · exact eqv_run (fun op => eqGuard_nil_constL ..) rfl rfl fun n => by rw [Op.equalIn]; simp [hu]
        · exact eqv_run (fun op => eqGuard_nil_constR ..) rfl rfl fun n => by rw [Op.equalIn]; simp [hu]
      · cases hz
    · cases inv_nili ha; obtain ⟨u, rfl, _⟩ := inv_iface hb
      cases hz
      exact eqv_run (fun op => eqGuard_nil_iface ..) rfl rfl fun n => by rw [Op.equalIn]; simp [hu]
    · cases inv_nili hb; obtain ⟨u, rfl, _⟩ := inv_iface ha
      cases hz
      exact eqv_run (fun op => eqGuard_at_iface ..) rfl rfl fun n => by rw [Op.equalIn]; simp [hu]
    · obtain ⟨u, rfl, hu1⟩ := inv_iface ha
      obtain ⟨u', rfl, hu2⟩ := inv_iface hb
      split at hz
      · rename_i hts'
        subst hts'
        split at hz
        · split at hz
          · rename_i hh
            obtain ⟨h1, rfl⟩ := hh
            cases hz
            cases inv_int hu1; cases inv_int hu2
            obtain ⟨i, k, e1, e2, e3⟩ := hts _ h1
            have hu' := run_underlying e3
            exact eqv_run (fun op => eqGuard_at_iface ..) rfl rfl fun n => by rw [Op.equalIn]; simp only [Sem.run_bind, hu, Result.andThen_ok]; simp [typeInfo, e1, e2]; rw [Op.equalIn]; simp [hu']
          · cases hz
        · cases hz
      · rename_i hne
        cases hz
        exact eqv_run (fun op => eqGuard_at_iface ..) rfl rfl fun n => by rw [Op.equalIn]; simp [hu, hne]
    · cases hz
  · exact hdd.elim
end
end Go.Dm
set_option linter.unusedSimpArgs false
set_option linter.unusedVariables false
namespace Go.Dm

/-- The tables that nobody writes. -/
def GlR (w : World) (I : Nat → Prop) (gl : Nat → Option (List V)) : Prop :=
  ∀ gi cs, gl gi = some cs → I gi ∧ flatL cs ∧ ∃ vs, At w gi 0 vs ∧ RL w I rho0 vs cs

theorem RL.of0 {w : World} {I : Nat → Prop} {ρ : Rho} {vs : List Value} {xs : List V} (h : RL w I rho0 vs xs) : RL w I ρ vs xs :=
  h.mono (fun _ _ => rfl) (fun _ => Nat.le_refl _) (fun _ h => h) (fun h p hp => by simp [rho0] at hp)

section
variable {P : Program} {w0 w : World} {O I0 I : Nat → Prop} {ρ : Rho} {g : Nat → Option Obj} {used : Nat → Prop} {nm : Nat}

theorem cutAs0 {agg : Bool} {n : Nat} {e x : V} (h : shapeAs agg n e = some x) : cutAs agg 0 n e.cells = some x := by
  unfold shapeAs at h
  split at h
  · split at h
    · rename_i hl
      cases h
      simp [cutAs, V.cells, ← hl]
    · cases h
  · cases h
  · cases h
  · rename_i hne
    split at h
    · rename_i h1
      cases h
      cases e <;> first | (simp [cutAs, V.cells, h1]; done) | exact (hne _ rfl).elim
    · cases h

theorem snd_load {t : TypeId} {n : Nat} {agg : Bool} {gl : Nat → Option (List V)} {p x : V} {v : Value} (hR : Rel w0 O I0 I ρ g used w) (ha : aggT P t = some agg) (hn : sizT P t = some n)
    (hv : R w I ρ v p) (hx : loadV g n agg p = some x) : ∃ u, (Instr.loadAt t v).run P w = .ok u w ∧ R w I ρ u x := by
  unfold loadV at hx
  split at hx
  · rename_i h i f
    obtain ⟨b, s', rfl, hr⟩ := inv_hp hv
    simp only [Instr.loadAt, Instr.sureAddr, Sem.run_bind, Sem.run_pure, Result.andThen_ok]
    split at hx
    · rename_i es s hg
      obtain ⟨b', s1, q1, q2, q3, rfl, q5, q0, cs, e, fr, q6, q7, q8⟩ := hR.obj h _ hg
      rw [hr] at q1; cases q1
      have hat := at_take q6 (cellsL es).length
      split at hx
      · rename_i hfn
        obtain ⟨rfl, rfl⟩ := hfn
        split at hx
        · rename_i e' he
          have hc := cellsL_at q5 he
          have h1 := (hat.drop (i * n)).take n
          rw [Nat.zero_add] at h1
          have h2 := (q8.drop (i * n)).take n
          rw [hc] at h2
          have hfl : flatL e'.cells := by
            rw [← hc]; exact fun y hy => q0 y (List.mem_of_mem_drop (List.mem_of_mem_take hy))
          obtain ⟨u, hu, hur⟩ := cutAs_sound (f := 0) ha hn h1 hfl h2 (cutAs0 hx)
          exact ⟨u, hu, hur.of0⟩
        · cases hx
      · split at hx
        · rename_i hh
          obtain ⟨hagg, rfl, hs0, hmod, hle⟩ := hh
          cases hx
          have hnm : n = n / s' * s' := by
            have := Nat.div_add_mod n s'
            rw [hmod, Nat.add_zero, Nat.mul_comm] at this
            exact this.symm
          have hc : cellsL ((es.drop i).take (n / s')) = ((cellsL es).drop (i * s')).take n := by
            rw [cellsL_take _ (mem_width_drop q5 i), cellsL_drop _ q5, ← hnm]
          have h1 := (hat.drop (i * s')).take n
          rw [Nat.zero_add] at h1
          have h2 := (q8.drop (i * s')).take n
          rw [← hc] at h2
          have hfl : flatL (cellsL ((es.drop i).take (n / s'))) := by
            rw [hc]; exact fun y hy => q0 y (List.mem_of_mem_drop (List.mem_of_mem_take hy))
          have hl : (cellsL ((es.drop i).take (n / s'))).length = n := by
            rw [cellsL_length (mem_width_take (mem_width_drop q5 i) _)]
            have : ((es.drop i).take (n / s')).length = n / s' := by simp; omega
            rw [this]; exact hnm.symm
          have hcut : cutAs agg 0 n (cellsL ((es.drop i).take (n / s'))) = some (.agg (cellsL ((es.drop i).take (n / s')))) := by
            unfold cutAs
            rw [if_pos hagg, if_pos (by rw [hl]; omega), List.drop_zero, List.take_of_length_le (Nat.le_of_eq hl)]
          obtain ⟨u, hu, hur⟩ := cutAs_sound (f := 0) ha hn h1 hfl h2 hcut
          exact ⟨u, hu, hur.of0⟩
        · split at hx
          · rename_i cs' he
            have hc := cellsL_at q5 he
            simp only [V.cells] at hc
            have h1 := (hat.drop (i * s')).take s'
            rw [Nat.zero_add] at h1
            have h2 := (q8.drop (i * s')).take s'
            rw [hc] at h2
            have hfl : flatL cs' := by
              rw [← hc]; exact fun y hy => q0 y (List.mem_of_mem_drop (List.mem_of_mem_take hy))
            obtain ⟨u, hu, hur⟩ := cutAs_sound (f := f) ha hn h1 hfl h2 hx
            exact ⟨u, hu, hur.of0⟩
          · cases hx
    · rename_i cs hg
      split at hx
      · rename_i hi
        subst hi
        obtain ⟨b', s1, q1, q2, q3, q0, cs', e, fr, q6, q7, q8⟩ := hR.obj h _ hg
        rw [hr] at q1; cases q1
        obtain ⟨u, hu, hur⟩ := cutAs_sound (f := f) ha hn (at_of_block q6) q0 q8 hx
        refine ⟨u, ?_, hur⟩
        rw [show 0 * s' + f = 0 + f by omega]
        exact hu
      · cases hx
    · cases hx
  · rename_i cs
    obtain ⟨b, o, vs, rfl, h0, h1, h2, h3⟩ := inv_pt hv
    simp only [Instr.loadAt, Instr.sureAddr, Sem.run_bind, Sem.run_pure, Result.andThen_ok]
    obtain ⟨u, hu, hur⟩ := cutAs_sound (f := 0) ha hn h2 h0 h3 hx
    exact ⟨u, hu, hur.of0⟩
  · cases hx

theorem snd_loadG {t : TypeId} {n : Nat} {agg : Bool} {gl : Nat → Option (List V)} {gi off : Nat} {cs : List V} {x : V} {v : Value} (hG : GlR w I gl) (ha : aggT P t = some agg) (hn : sizT P t = some n)
    (hv : R w I ρ v (.gp gi off)) (hg : gl gi = some cs) (hx : cutAs agg off n cs = some x) : ∃ u, (Instr.loadAt t v).run P w = .ok u w ∧ R w I ρ u x := by
  cases inv_gp hv
  obtain ⟨h1, h0, vs, h2, h3⟩ := hG _ _ hg
  simp only [Instr.loadAt, Instr.sureAddr, Sem.run_bind, Sem.run_pure, Result.andThen_ok]
  obtain ⟨u, hu, hur⟩ := cutAs_sound (f := off) ha hn h2 h0 h3 hx
  rw [Nat.zero_add] at hu
  exact ⟨u, hu, hur.of0⟩

/-- A part of an array's or a struct's value. -/
theorem run_part {t : TypeId} {n off : Nat} {agg : Bool} {a : Array Value} {cs : List V} {x : V} (ha : aggT P t = some agg) (hn : sizT P t = some n) (hfl : flatL cs) (hr : RL w I ρ a.toList cs)
    (hx : cutAs agg off n cs = some x) : ∃ u, (part t a off).run P w = .ok u w ∧ R w I ρ u x := by
  have hl := hr.length
  unfold cutAs at hx
  split at hx
  · rename_i hag
    subst hag
    split at hx
    · rename_i hle
      cases hx
      refine ⟨_, by simp [part, Sem.run_bind, run_isAgg ha, run_sizeOf hn]; rfl, ?_⟩
      refine RL.agg _ _ (fun y hy => hfl y (List.mem_of_mem_drop (List.mem_of_mem_take hy))) ?_ RL.nil
      have : (a.extract off (off + n)).toList = (a.toList.drop off).take n := by simp
      rw [this]
      exact (hr.drop off).take n
    · cases hx
  · rename_i hag
    simp only [Bool.not_eq_true] at hag
    subst hag
    split at hx
    · obtain ⟨u, hu, hur⟩ := hr.get hx
      refine ⟨u, ?_, hur⟩
      have hu' : a[off]? = some u := by simpa using hu
      simp [part, Sem.run_bind, run_isAgg ha, hu']
    · cases hx

theorem snd_fld {t : TypeId} {fs : Array Field} {i : Nat} {f : Field} {n : Nat} {agg : Bool} {v : Value} {cs : List V} {x : V} (hu : P.underlying t = some (.struct fs)) (hf : fs[i]? = some f)
    (hn : sizT P f.type = some n) (ha : aggT P f.type = some agg) (hv : R w I ρ v (.agg cs)) (hx : cutAs agg f.offset n cs = some x) :
    ∃ u, (Instr.field t v i).run P w = .ok u w ∧ R w I ρ u x := by
  obtain ⟨a, rfl, hfl, hr⟩ := inv_agg hv
  obtain ⟨u, hu1, hur⟩ := run_part ha hn hfl hr hx
  exact ⟨u, by simp [Instr.field, Sem.run_bind, run_underlying hu, hf, asAgg, hu1], hur⟩

theorem snd_faddr {t : TypeId} {fs : Array Field} {i : Nat} {f : Field} {n : Nat} {v : Value} {p x : V} (hu : P.underlying t = some (.struct fs)) (hf : fs[i]? = some f)
    (hn : sizT P f.type = some n) (hn0 : 0 < n) (hv : R w I ρ v p)
    (hx : faddrV f.offset p = some x) :
    ∃ u, (Instr.fieldAt t v i).run P w = .ok u w ∧ R w I ρ u x := by
  have hne : n ≠ 0 := by omega
  unfold faddrV at hx
  cases p with
  | hp h i' k =>
    cases hx
    obtain ⟨b, s, rfl, hr⟩ := inv_hp hv
    refine ⟨_, by simp [Instr.fieldAt, Sem.run_bind, run_underlying hu, hf, Instr.sureAddr, fieldPlace, run_sizeOf hn, hne, Addr.add_lit]; rfl, ?_⟩
    rw [Nat.add_assoc]
    exact RL.hp _ _ _ _ _ hr RL.nil
  | pt cs =>
    cases hx
    obtain ⟨b, o, vs, rfl, h0, h1, h2, h3⟩ := inv_pt hv
    refine ⟨_, by simp [Instr.fieldAt, Sem.run_bind, run_underlying hu, hf, Instr.sureAddr, fieldPlace, run_sizeOf hn, hne, Addr.add_lit]; rfl, ?_⟩
    exact RL.pt _ _ _ (vs.drop f.offset) (fun y hy => h0 y (List.mem_of_mem_drop hy)) h1 (At.drop h2 _) (h3.drop _) RL.nil
  | gp gi o =>
    cases hx
    cases inv_gp hv
    exact ⟨_, by simp [Instr.fieldAt, Sem.run_bind, run_underlying hu, hf, Instr.sureAddr, fieldPlace, run_sizeOf hn, hne, Addr.add_lit], RL.gp _ _ RL.nil⟩
  | _ => simp at hx
end
end Go.Dm
set_option linter.unusedSimpArgs false
set_option linter.unusedVariables false
namespace Go.Dm

section
variable {P : Program} {w0 w : World} {O I0 I : Nat → Prop} {ρ : Rho} {g : Nat → Option Obj} {used : Nat → Prop} {nm : Nat}

theorem snd_iaddrL {t e : TypeId} {s i : Nat} {k : IntKind} {v : Value} {p x : V} (hR : Rel w0 O I0 I ρ g used w) (hu : P.underlying t = some (.slice e)) (hs : sizT P e = some s) (hs0 : 0 < s)
    (hv : R w I ρ v p) (hx : iaddrV g none s i p = some x) : ∃ u, (Instr.indexAt t v (.int k (i : Int))).run P w = .ok u w ∧ R w I ρ u x := by
  unfold iaddrV at hx
  have hu' := run_underlying hu
  split at hx
  · rename_i h off len
    split at hx
    · rename_i es s1 hg
      split at hx
      · rename_i hh
        obtain ⟨_, rfl, hlt⟩ := hh
        cases hx
        obtain ⟨b', s2, q1, q2, q3, rfl, _⟩ := hR.obj h _ hg
        rcases inv_hs hv with ⟨rfl, _⟩ | ⟨b, s', cap, rfl, hr, h2, h3⟩
        · omega
        · rw [q1] at hr; cases hr
          refine ⟨.pointer (some ⟨b', (off + i) * s1 + 0, none⟩), ?_, RL.hp _ _ _ _ _ q1 RL.nil⟩
          simp [Instr.indexAt, asIntOf, Sem.run_bind, hu', hlt, run_sizeOf hs, Addr.add_lit, Nat.add_mul]
      · cases hx
    · cases hx
  · rename_i es s'
    split at hx
    · rename_i hh
      obtain ⟨_, rfl⟩ := hh
      split at hx
      · rename_i e' he
        cases hx
        have hi : i < es.length := (List.getElem?_eq_some_iff.1 he).1
        rcases inv_sl hv with ⟨rfl, _⟩ | ⟨b, o, cap, cs, rfl, hc, h1, h0, h2, h3, h4⟩
        · simp at hi
        · refine ⟨.pointer (some ⟨b, o + i * s', none⟩), ?_, ?_⟩
          · simp [Instr.indexAt, asIntOf, Sem.run_bind, hu', hi, run_sizeOf hs, Addr.add_lit]
          · have hc := cellsL_at h1 he
            have a1 := (At.drop h3 (i * s')).take s'
            have a2 := (h4.drop (i * s')).take s'
            rw [hc] at a2
            exact RL.pt _ _ _ _ (by rw [← hc]; exact fun y hy => h0 y (List.mem_of_mem_drop (List.mem_of_mem_take hy))) h2 a1 a2 RL.nil
      · cases hx
    · cases hx
  · rename_i h j f
    split at hx <;> simp_all
  · simp at hx
  · simp at hx
  · cases hx

theorem snd_iaddrA {t e : TypeId} {n s i : Nat} {k : IntKind} {v : Value} {p x : V} (hR : Rel w0 O I0 I ρ g used w) (hu : P.underlying t = some (.array n e)) (hs : sizT P e = some s) (hs0 : 0 < s)
    (hv : R w I ρ v p) (hx : iaddrV g (some n) s i p = some x) : ∃ u, (Instr.indexAt t v (.int k (i : Int))).run P w = .ok u w ∧ R w I ρ u x := by
  unfold iaddrV at hx
  have hu' := run_underlying hu
  cases p with
  | hs h off len =>
    simp only at hx
    split at hx
    · split at hx
      · simp_all
      · cases hx
    · cases hx
  | sl es s' => simp at hx
  | hp h j f =>
    obtain ⟨b, s2, rfl, hr⟩ := inv_hp hv
    have hrun : i < n → (Instr.indexAt t (.pointer (some ⟨b, j * s2 + f, none⟩)) (.int k (i : Int))).run P w = .ok (.pointer (some ⟨b, j * s2 + f + i * s, none⟩)) w := by
      intro hlt
      simp [Instr.indexAt, asIntOf, Sem.run_bind, hu', hlt, run_sizeOf hs, Addr.add_lit, Instr.sureAddr]
    simp only at hx
    split at hx
    · rename_i n' es s' he hg
      cases he
      split at hx
      · rename_i hlt
        obtain ⟨b', s3, q1, q2, q3, rfl, _⟩ := hR.obj h _ hg
        rw [hr] at q1; cases q1
        refine ⟨_, hrun hlt, ?_⟩
        split at hx
        · rename_i hh
          obtain ⟨hj, hf, hs', _⟩ := hh
          cases hx
          subst hj hf hs'
          rw [show ∀ m, 0 * m + 0 + i * m = i * m + 0 from fun m => by omega]
          exact RL.hp _ _ _ _ _ hr RL.nil
        · cases hx
          rw [Nat.add_assoc]
          exact RL.hp _ _ _ _ _ hr RL.nil
      · cases hx
    · rename_i n' cs he hg
      cases he
      split at hx
      · rename_i hlt
        cases hx
        refine ⟨_, hrun hlt, ?_⟩
        rw [Nat.add_assoc]
        exact RL.hp _ _ _ _ _ hr RL.nil
      · cases hx
    · cases hx
  | pt cs =>
    obtain ⟨b, o, vs, rfl, h0, h1, h2, h3⟩ := inv_pt hv
    simp only at hx
    split at hx
    · rename_i hlt
      cases hx
      refine ⟨_, by simp [Instr.indexAt, asIntOf, Sem.run_bind, hu', hlt, run_sizeOf hs, Addr.add_lit, Instr.sureAddr]; rfl, ?_⟩
      exact RL.pt _ _ _ (vs.drop (i * s)) (fun y hy => h0 y (List.mem_of_mem_drop hy)) h1 (At.drop h2 _) (h3.drop _) RL.nil
    · cases hx
  | gp gi o =>
    cases inv_gp hv
    simp only at hx
    split at hx
    · rename_i hlt
      cases hx
      exact ⟨_, by simp [Instr.indexAt, asIntOf, Sem.run_bind, hu', hlt, run_sizeOf hs, Addr.add_lit, Instr.sureAddr], RL.gp _ _ RL.nil⟩
    · cases hx
  | _ => simp at hx

theorem snd_idxS {t : TypeId} {l : List UInt8} {k : IntKind} {i : Nat} {b : UInt8} {v : Value} (hu : P.underlying t = some .string) (hv : R w I ρ v (.str l)) (hb : l[i]? = some b) :
    ∃ u, (Instr.index t v (.int k (i : Int))).run P w = .ok u w ∧ R w I ρ u (.int .u8 (b.toNat : Int)) := by
  cases inv_str hv
  refine ⟨_, ?_, RL.int _ _ RL.nil⟩
  have hi : i < l.length := (List.getElem?_eq_some_iff.1 hb).1
  have : (ByteArray.mk l.toArray)[i]? = some b := by
    have h2 : i < (ByteArray.mk l.toArray).size := by simpa [ByteArray.size] using hi
    rw [getElem?_pos (ByteArray.mk l.toArray) i h2]
    exact congrArg some (show l.toArray[i]'(by simpa using hi) = b by simpa using (List.getElem?_eq_some_iff.1 hb).2)
  simp [Instr.index, asIntOf, Sem.run_bind, run_underlying hu, this]

theorem snd_idxA {t e : TypeId} {len s i : Nat} {agg : Bool} {k : IntKind} {cs : List V} {v : Value} {x : V} (hu : P.underlying t = some (.array len e)) (hs : sizT P e = some s) (ha : aggT P e = some agg)
    (hv : R w I ρ v (.agg cs)) (hi : i < len) (hx : cutAs agg (i * s) s cs = some x) :
    ∃ u, (Instr.index t v (.int k (i : Int))).run P w = .ok u w ∧ R w I ρ u x := by
  obtain ⟨a, rfl, hfl, hr⟩ := inv_agg hv
  obtain ⟨u, hu1, hur⟩ := run_part ha hs hfl hr hx
  exact ⟨u, by simp [Instr.index, asIntOf, Sem.run_bind, run_underlying hu, hi, run_sizeOf hs, hu1], hur⟩

theorem snd_lenL {t e ty : TypeId} {v : Value} {p : V} {n : Nat} (hu : P.underlying t = some (.slice e)) (hv : R w I ρ v p) (hx : lenV p = some n) :
    (Builtin.len_ #[t] ty #[v]).run P w = .ok (.int .i64 (n : Int)) w := by
  unfold lenV at hx
  split at hx
  · cases hx; obtain ⟨a, rfl⟩ := inv_nils hv
    simp [Builtin.len_, Sem.run_bind, run_underlying hu, goInt]
  · cases hx
    rcases inv_sl hv with ⟨rfl, a, cap, rfl⟩ | ⟨b, o, cap, cs, rfl, _⟩ <;> simp [Builtin.len_, Sem.run_bind, run_underlying hu, goInt]
  · cases hx
    rcases inv_hs hv with ⟨rfl, a, b, s, rfl, _⟩ | ⟨b, s, cap, rfl, _⟩ <;> simp [Builtin.len_, Sem.run_bind, run_underlying hu, goInt]
  · cases hx

theorem snd_lenS {t ty : TypeId} {v : Value} {l : List UInt8} (hu : P.underlying t = some .string) (hv : R w I ρ v (.str l)) :
    (Builtin.len_ #[t] ty #[v]).run P w = .ok (.int .i64 (l.length : Int)) w := by
  cases inv_str hv
  have hsz : (ByteArray.mk l.toArray).size = l.length := by simp [ByteArray.size]
  simp [Builtin.len_, Sem.run_bind, run_underlying hu, goInt, hsz]

theorem byteOf_list : ∀ {es : List V} {l : List UInt8}, es.mapM byteOf = some l → ∃ xs : List Int, es = xs.map (V.int .u8) ∧ l = xs.map fun n => UInt8.ofNat n.toNat
  | [], l, h => by simp at h; exact ⟨[], rfl, by simp [h]⟩
  | e :: es, l, h => by
    rw [List.mapM_cons] at h
    cases hb : byteOf e with
    | none => simp [hb] at h
    | some b =>
      cases hr : es.mapM byteOf with
      | none => simp [hb, hr] at h
      | some r =>
        simp [hb, hr] at h
        obtain ⟨xs, h1, h2⟩ := byteOf_list hr
        unfold byteOf at hb
        split at hb
        · cases hb
          rename_i n
          exact ⟨n :: xs, by simp [h1], by simp [← h, h2]⟩
        · cases hb

theorem RL_ints {k : IntKind} : ∀ {xs : List Int} {vs : List Value}, RL w I ρ vs (xs.map (V.int k)) → vs = xs.map (Value.int k)
  | [], vs, h => by simp at h; cases h; rfl
  | x :: xs, [], h => by simp at h; cases h
  | x :: xs, v :: vs, h => by
    simp only [List.map_cons] at h
    cases inv_int h.cons_split.1
    simp [RL_ints h.cons_split.2]
theorem cellsL_ints (k : IntKind) (xs : List Int) : cellsL (xs.map (V.int k)) = xs.map (V.int k) := by
  induction xs with
  | nil => rfl
  | cons x xs ih => simp [cellsL_cons, V.cells, ih]

theorem snd_b2s {t d e : TypeId} {v : Value} {p : V} {es : List V} {l : List UInt8} (hR : Rel w0 O I0 I ρ g used w) (hu : P.underlying t = some (.slice e)) (he : P.underlying e = some (.int .u8)) (hd : P.underlying d = some .string)
    (hv : R w I ρ v p) (hx : viewL g 1 p = some es) (hl : es.mapM byteOf = some l) : ∃ u, (convert t d v).run P w = .ok u w ∧ R w I ρ u (.str l) := by
  obtain ⟨a, cap, cs, rfl, h1, h0, h2, h3⟩ := viewL_sound hx hv hR
  refine ⟨_, ?_, RL.str l RL.nil⟩
  obtain ⟨xs, rfl, rfl⟩ := byteOf_list hl
  rw [cellsL_ints] at h2
  have hcs := RL_ints h2
  subst hcs
  have hs : (strOfNums xs) = ⟨(xs.map fun n => UInt8.ofNat n.toNat).toArray⟩ := rfl
  rw [← hs]
  rw [List.length_map]
  rcases h3 with h3 | ⟨b, o, rfl, h3⟩
  · have : xs = [] := by simpa using h3
    subst this
    cases a with
    | none => exact run_convert_bytes_nil w t e hu he 0 cap d hd
    | some a =>
      obtain ⟨b, o, sp⟩ := a
      have hld : (loadCells ⟨b, o, sp⟩ 0).run P w = .ok #[] w := by simp [loadCells, loadCellsFrom]
      have : (Conv.bytesToString (.slice (some ⟨b, o, sp⟩) 0 cap)).run P w = .ok (.string ByteArray.empty) w := by
        simp [Conv.bytesToString, Sem.run_bind, hld]
      simp only [convert, Sem.run_bind, run_underlying hu, run_underlying hd, run_underlying he, Result.andThen_ok]
      exact this
  · refine run_convert_bytes_arg w t e hu he b o xs.length cap xs rfl (fun i hi => ?_) d hd
    exact h3 i _ (by simp [List.getElem?_eq_getElem hi, List.getD_eq_getElem?_getD])

/-- A slice's bounds. -/
def LoR (v : Option Value) (a : Nat) : Prop := (v = none ∧ a = 0) ∨ ∃ k, v = some (.int k (a : Int))
def HiR (v : Option Value) (b : Option Nat) : Prop := (v = none ∧ b = none) ∨ ∃ k n, v = some (.int k ((n : Nat) : Int)) ∧ b = some n

theorem run_bounds {isS : Bool} {len cap a : Nat} {lo hi : Option Value} {b : Option Nat} (hlo : LoR lo a) (hhi : HiR hi b) (h1 : a ≤ b.getD len) (h2 : b.getD len ≤ cap) :
    (Instr.sliceBounds isS len cap lo hi none).run P w = .ok (a, b.getD len, cap) w := by
  rcases hlo with ⟨rfl, rfl⟩ | ⟨k, rfl⟩ <;> rcases hhi with ⟨rfl, rfl⟩ | ⟨k', n, rfl, rfl⟩ <;> simp only [Option.getD_none, Option.getD_some] at h1 h2
  · simp [Instr.sliceBounds]
  · simp [Instr.sliceBounds, Instr.sliceBound, asIntOf, h2]
  · simp [Instr.sliceBounds, Instr.sliceBound, asIntOf, h1]
  · simp [Instr.sliceBounds, Instr.sliceBound, asIntOf, h1, h2]

theorem snd_slcS {t : TypeId} {v : Value} {l : List UInt8} {a : Nat} {b : Option Nat} {lo hi : Option Value} (hu : P.underlying t = some .string) (hv : R w I ρ v (.str l)) (hlo : LoR lo a) (hhi : HiR hi b)
    (h1 : a ≤ b.getD l.length) (h2 : b.getD l.length ≤ l.length) : ∃ u, (Instr.sliceAt t v lo hi none).run P w = .ok u w ∧ R w I ρ u (.str ((l.take (b.getD l.length)).drop a)) := by
  cases inv_str hv
  have hsz : (ByteArray.mk l.toArray).size = l.length := by simp [ByteArray.size]
  refine ⟨_, ?_, RL.str _ RL.nil⟩
  have hb := run_bounds (P := P) (w := w) (isS := false) (len := l.length) (cap := l.length) hlo hhi h1 h2
  have he : (ByteArray.mk l.toArray).extract a (b.getD l.length) = ⟨((l.take (b.getD l.length)).drop a).toArray⟩ := by
    apply ByteArray.ext
    simp [ByteArray.data_extract, List.drop_take]
  simp [Instr.sliceAt, Instr.slice, Sem.run_bind, run_underlying hu, hsz, hb, he]

theorem snd_slcL {t e : TypeId} {s : Nat} {v : Value} {p x : V} {a : Nat} {b : Option Nat} {lo hi : Option Value} (hR : Rel w0 O I0 I ρ g used w) (hu : P.underlying t = some (.slice e)) (hs : sizT P e = some s) (hv : R w I ρ v p) (hlo : LoR lo a) (hhi : HiR hi b)
    (hx : slcLV g s p a b = some x) : ∃ u, (Instr.sliceAt t v lo hi none).run P w = .ok u w ∧ R w I ρ u x := by
  have hrun : ∀ (ad : Option Addr) len cap, a ≤ b.getD len → b.getD len ≤ cap →
      (Instr.sliceAt t (.slice ad len cap) lo hi none).run P w = .ok (.slice (if cap = a then ad else ad.map (·.add (a * s))) (b.getD len - a) (cap - a)) w := by
    intro ad len cap h1 h2
    have hb := run_bounds (P := P) (w := w) (isS := true) (len := len) (cap := cap) hlo hhi h1 h2
    simp [Instr.sliceAt, Instr.slice, Sem.run_bind, run_underlying hu, run_sizeOf hs, hb]
  unfold slcLV at hx
  cases p with
  | nils =>
    obtain ⟨ad, rfl⟩ := inv_nils hv
    simp only at hx
    split at hx
    · rename_i hh
      obtain ⟨rfl, h2⟩ := hh
      cases hx
      refine ⟨_, hrun ad 0 0 (by omega) (by omega), ?_⟩
      simp only [h2]
      exact RL.nils _ RL.nil
    · cases hx
  | sl es s' =>
    simp only at hx
    split at hx
    · rename_i hs'
      subst hs'
      split at hx
      · rename_i hh
        obtain ⟨h1, h2⟩ := hh
        cases hx
        have hlen : ((es.take (b.getD es.length)).drop a).length = b.getD es.length - a := by simp; omega
        rcases inv_sl hv with ⟨rfl, ad, cap, rfl⟩ | ⟨bl, o, cap, cs, rfl, gc, g1, g0, g2, g3, g4⟩
        · simp only [List.length_nil, Nat.le_zero] at h2
          simp only [List.length_nil] at h1
          have ha : a = 0 := by omega
          refine ⟨_, hrun ad 0 cap (by simpa using h1) (by omega), ?_⟩
          have e1 : (b.getD 0 - a) = 0 := by omega
          have e2 : ((([] : List V).take (b.getD ([] : List V).length)).drop a) = [] := by simp
          rw [e1, e2]
          exact RL.sl0 _ _ _ RL.nil
        · have hc : b.getD es.length ≤ cap := by omega
          refine ⟨_, hrun _ es.length cap h1 hc, ?_⟩
          by_cases hca : cap = a
          · have e1 : b.getD es.length - a = 0 := by omega
            rw [e1]
            have e2 : (es.take (b.getD es.length)).drop a = [] := List.eq_nil_of_length_eq_zero (by rw [hlen, e1])
            rw [e2]
            exact RL.sl0 _ _ _ RL.nil
          · rw [if_neg hca]
            have hat := (At.take g3 (b.getD es.length * s')).drop (a * s')
            have hrl := (g4.take (b.getD es.length * s')).drop (a * s')
            have hc1 : cellsL ((es.take (b.getD es.length)).drop a) = ((cellsL es).take (b.getD es.length * s')).drop (a * s') := by
              rw [cellsL_drop _ (mem_width_take g1 _), cellsL_take _ g1]
            have := RL.sl1 (w := w) (I := I) (ρ := ρ) bl (o + a * s') (cap - a) s' ((es.take (b.getD es.length)).drop a) _ (by rw [hlen]; omega) (mem_width_drop (mem_width_take g1 _) _)
              (by rw [hc1]; exact fun y hy => g0 y (List.mem_of_mem_take (List.mem_of_mem_drop hy))) g2 hat (by rw [hc1]; exact hrl) RL.nil
            rw [hlen] at this
            simpa [Addr.add_lit] using this
      · cases hx
    · cases hx
  | hs h off len =>
    simp only at hx
    split at hx
    · rename_i es s' hg
      split at hx
      · rename_i hh
        obtain ⟨hs', h1, h2⟩ := hh
        subst hs'
        cases hx
        rcases inv_hs hv with ⟨rfl, ad, bl, s1, rfl, hr⟩ | ⟨bl, s1, cap, rfl, hr, c1, c2⟩
        · refine ⟨_, hrun ad 0 0 h1 h2, ?_⟩
          have e1 : b.getD 0 - a = 0 := by omega
          have e2 : 0 - a = 0 := by omega
          rw [e1, e2]
          exact RL.hs0 _ _ _ _ _ hr RL.nil
        · obtain ⟨b', s2, q1, q2, q3, q4, _⟩ := hR.obj h _ hg
          rw [q1] at hr; cases hr
          subst q4
          refine ⟨_, hrun _ len cap h1 (by omega), ?_⟩
          by_cases hca : cap = a
          · have e1 : b.getD len - a = 0 := by omega
            have e2 : cap - a = 0 := by omega
            rw [e1, e2]
            exact RL.hs0 _ _ _ _ _ q1 RL.nil
          · rw [if_neg hca]
            have e3 : (⟨bl, off * s', none⟩ : Addr).add (a * s') = ⟨bl, (off + a) * s', none⟩ := by rw [Addr.add_lit, Nat.add_mul]
            simp only [Option.map_some, e3]
            exact RL.hs h (off + a) (b.getD len - a) bl s' (cap - a) q1 (by omega) (by rw [show off + a + (cap - a) = off + cap by omega]; exact c2) RL.nil
      · cases hx
    · cases hx
  | _ => simp at hx
end
end Go.Dm
set_option linter.unusedSimpArgs false
set_option linter.unusedVariables false
namespace Go.Dm

theorem chunk_spec (s : Nat) (hs : 0 < s) : ∀ (n : Nat) (cs : List V), n * s ≤ cs.length → (∀ e ∈ chunk s n cs, e.width = s) ∧ cellsL (chunk s n cs) = cs.take (n * s) ∧ (chunk s n cs).length = n
  | 0, cs, _ => by simp [chunk, cellsL]
  | n + 1, cs, h => by
    have h' : n * s + s ≤ cs.length := by rwa [Nat.succ_mul] at h
    obtain ⟨a, b, c⟩ := chunk_spec s hs n (cs.drop s) (by simp; omega)
    refine ⟨fun e he => ?_, ?_, by simp [chunk, c]⟩
    · simp only [chunk, List.mem_cons] at he
      rcases he with rfl | he
      · simp [V.width]; omega
      · exact a e he
    · simp only [chunk, cellsL_cons, b, V.cells]
      rw [Nat.succ_mul, Nat.add_comm (n * s) s, List.take_add]
theorem rowOf_spec {s : Nat} (hs : 0 < s) {cs : List V} (hf : flatL cs) : (∀ e ∈ rowOf s cs, e.width = s) ∧ cellsL (rowOf s cs) = cs.take (cs.length / s * s) ∧ (rowOf s cs).length = cs.length / s := by
  unfold rowOf
  split
  · rename_i h1
    subst h1
    refine ⟨fun e he => ?_, ?_, by simp⟩
    · have := hf e he
      cases e <;> simp_all [V.one, V.width]
    · have : ∀ xs : List V, flatL xs → cellsL xs = xs := by
        intro xs
        induction xs with
        | nil => intro _; rfl
        | cons x xs ih =>
          intro h
          have h1 := h x (by simp)
          rw [cellsL_cons, ih fun y hy => h y (by simp [hy])]
          cases x <;> simp_all [V.one, V.cells]
      simp [this cs hf]
  · exact chunk_spec s hs _ cs (Nat.div_mul_le_self _ _)

theorem RL.splice {w : World} {I : Nat → Prop} {ρ : Rho} {vs us : List Value} {xs ys : List V} (h : RL w I ρ vs xs) (h' : RL w I ρ us ys) (o : Nat) : RL w I ρ (spliceL vs o us) (spliceL xs o ys) := by
  unfold spliceL
  rw [h'.length]
  exact ((h.take o).append h').append (h.drop _)
theorem flatL_splice {xs ys : List V} (h : flatL xs) (h' : flatL ys) (o : Nat) : flatL (spliceL xs o ys) := by
  intro y hy
  simp only [spliceL, List.mem_append] at hy
  rcases hy with (hy | hy) | hy
  · exact h y (List.mem_of_mem_take hy)
  · exact h' y hy
  · exact h y (List.mem_of_mem_drop hy)

theorem range_cycle (zs : List Value) (hz : 0 < zs.length) (z : Value) : ∀ n, (List.range (n * zs.length)).map (fun i => zs.getD (i % zs.length) z) = (List.replicate n zs).flatten
  | 0 => by simp
  | n + 1 => by
    rw [Nat.succ_mul, List.range_add, List.map_append, range_cycle zs hz z n, List.replicate_succ', List.flatten_append]
    congr 1
    simp only [List.map_map, List.flatten_cons, List.flatten_nil, List.append_nil]
    apply List.ext_getElem?
    intro j
    by_cases hj : j < zs.length
    · simp [List.getElem?_map, List.getElem?_range, hj, List.getElem?_eq_getElem, Nat.mod_eq_of_lt hj, List.getD_eq_getElem?_getD]
    · simp [hj, List.getElem?_eq_none (Nat.le_of_not_lt hj)]

theorem RL_replicate {w : World} {I : Nat → Prop} {ρ : Rho} {vs : List Value} {x : V} (h : RL w I ρ vs x.cells) : ∀ n, RL w I ρ (List.replicate n vs).flatten (cellsL (List.replicate n x))
  | 0 => by simp [cellsL]; exact RL.nil
  | n + 1 => by
    rw [List.replicate_succ, List.replicate_succ, List.flatten_cons, cellsL_cons]
    exact h.append (RL_replicate h n)
theorem flatL_replicate {x : V} (h : flatL x.cells) (n : Nat) : flatL (cellsL (List.replicate n x)) := by
  induction n with
  | zero => simp [flatL, cellsL]
  | succ n ih =>
    rw [List.replicate_succ, cellsL_cons]
    intro y hy
    rcases List.mem_append.1 hy with hy | hy
    · exact h y hy
    · exact ih y hy

section
variable {P : Program} {w0 w : World} {O I0 I : Nat → Prop} {ρ : Rho} {g : Nat → Option Obj} {used : Nat → Prop} {nm : Nat}

theorem ext_alloc (hR : Rel w0 O I0 I ρ g used w) (hn : ¬ used nm) (c : Go.Obj) (p : Nat × Nat) : Ext w I ρ (w.alloc c) I (upd ρ nm (some p)) :=
  ⟨fun b hb => heap_alloc_old w c b (hR.ilt b hb), csize_alloc w c, fun _ h => h, fun h q hq => by
    by_cases e : h = nm
    · subst e; exact absurd (hR.dom _ _ hq) hn
    · rw [upd_ne _ _ e]; exact hq⟩

theorem unfrozen0 (n : Nat) : unfrozen n (0, 0) := fun j _ h => by simp at h

/-- A new variable. -/
theorem new_box (hR : Rel w0 O I0 I ρ g used w) (hn : ¬ used nm) {v : Value} {x : V} (e : TypeId) (hv : R w I ρ v x) (hs : x.sto = true) :
    Rel w0 O I0 I (upd ρ nm (some (w.heap.size, 1))) (upd g nm (some (.box x.cells))) (fun h => used h ∨ h = nm) (w.alloc (.cells v.cells e)) ∧
    Ext w I ρ (w.alloc (.cells v.cells e)) I (upd ρ nm (some (w.heap.size, 1))) ∧ R (w.alloc (.cells v.cells e)) I (upd ρ nm (some (w.heap.size, 1))) (.pointer (some ⟨w.heap.size, 0, none⟩)) (.hp nm 0 0) := by
  have hx := ext_alloc hR hn (.cells v.cells e) (w.heap.size, 1)
  obtain ⟨h1, h2⟩ := R_cells hv hs
  obtain ⟨a, b⟩ := hR.alloc nm 1 hn (.box x.cells) (.cells v.cells e) ⟨h2, v.cells, e, (0, 0), heap_alloc_new w _, unfrozen0 _, hx.rl h1⟩
  refine ⟨a, b, ?_⟩
  have := RL.hp (w := w.alloc (.cells v.cells e)) (I := I) (ρ := upd ρ nm (some (w.heap.size, 1))) nm 0 0 w.heap.size 1 (upd_same _ _ _) RL.nil
  simpa using this

/-- A new row: cells that read as elements without handles, and perhaps others behind them. -/
theorem new_row (hR : Rel w0 O I0 I ρ g used w) (hn : ¬ used nm) {vs : List Value} {es : List V} {s : Nat} (e : TypeId) (rest : List Value) (fr : Nat × Nat) (hw : ∀ x ∈ es, x.width = s) (hf : flatL (cellsL es))
    (hr : RL w I rho0 vs (cellsL es)) (hfr : unfrozen (vs.length + rest.length) fr) :
    Rel w0 O I0 I (upd ρ nm (some (w.heap.size, s))) (upd g nm (some (.row es s))) (fun h => used h ∨ h = nm) (w.alloc (.cells (vs ++ rest).toArray e fr)) ∧
    Ext w I ρ (w.alloc (.cells (vs ++ rest).toArray e fr)) I (upd ρ nm (some (w.heap.size, s))) := by
  have hx := ext_alloc hR hn (.cells (vs ++ rest).toArray e fr) (w.heap.size, s)
  refine hR.alloc nm s hn (.row es s) _ ⟨rfl, hw, hf, _, e, fr, heap_alloc_new w _, by simpa using hfr, ?_⟩
  have : (vs ++ rest).take (cellsL es).length = vs := by rw [← hr.length]; simp
  simp only [this]
  exact hx.rl0 hr

theorem R_row {W : World} {J : Nat → Prop} {ρ' : Rho} {b s len cap : Nat} (h : ρ' nm = some (b, s)) (hl : len ≤ cap) (hc : cap * s ≤ csize W b) : R W J ρ' (.slice (some ⟨b, 0, none⟩) len cap) (.hs nm 0 len) := by
  have := RL.hs (w := W) (I := J) (ρ := ρ') nm 0 len b s cap h hl (by simpa using hc) RL.nil
  simpa using this
theorem csize_new (w : World) (cs : Array Value) (e : TypeId) (fr : Nat × Nat) : csize (w.alloc (.cells cs e fr)) w.heap.size = cs.size := by
  unfold csize; rw [heap_alloc_new]

theorem infT_some {t : TypeId} {s b : Nat} {z : Value} (h : infT P t = some (s, b, z)) : ∃ i, P.info? t = some i ∧ i.size = s ∧ i.bytes = b ∧ i.zero = some z := by
  unfold infT at h
  cases hi : P.info? t with
  | none => simp [hi] at h
  | some i =>
    cases hz : i.zero with
    | none => simp [hi, hz] at h
    | some z' =>
      simp [hi, hz] at h
      exact ⟨i, rfl, h.1, h.2.1, by rw [hz, h.2.2]⟩
theorem zeroE_some {t : TypeId} {x : V} (h : zeroE P t = some x) : ∃ i z, P.info? t = some i ∧ i.zero = some z ∧ ∀ (w : World) (I : Nat → Prop) (ρ : Rho), R w I ρ z x := by
  unfold zeroE at h
  cases hi : infT P t with
  | none => simp [hi] at h
  | some p =>
    obtain ⟨s, b, z⟩ := p
    obtain ⟨i, h1, _, _, h4⟩ := infT_some hi
    simp [hi] at h
    exact ⟨i, z, h1, h4, fun w I ρ => valV_sound 6 _ _ h⟩

theorem snd_alloc {t : TypeId} {o : Obj} (hR : Rel w0 O I0 I ρ g used w) (hn : ¬ used nm) (ho : objZ P t = some o) :
    ∃ v w' ρ', (Instr.alloc t true (.tuple #[])).run P w = .ok v w' ∧ R w' I ρ' v (.hp nm 0 0) ∧ Rel w0 O I0 I ρ' (upd g nm (some o)) (fun h => used h ∨ h = nm) w' ∧ Ext w I ρ w' I ρ' := by
  unfold objZ at ho
  have hrun : ∀ {i : TypeInfo} {z : Value}, P.info? t = some i → i.zero = some z → (Instr.alloc t true (.tuple #[])).run P w = .ok (.pointer (some ⟨w.heap.size, 0, none⟩)) (w.alloc (.cells z.cells t)) := by
    intro i z hi hz
    simp [Instr.alloc, zeroValue, typeInfo, hi, hz, newVar, newRow]
  split at ho
  · rename_i cs n e hz hu
    split at ho
    · rename_i s hs
      split at ho
      · rename_i h0
        cases ho
        obtain ⟨i, z, h1, h2, h3⟩ := zeroE_some hz
        obtain ⟨a, rfl, hfl, hrl⟩ := inv_agg (h3 w I rho0)
        obtain ⟨q1, q2, q3⟩ := rowOf_spec h0 hfl
        have hl := hrl.length
        have e1 : a = ((a.toList.take (cs.length / s * s)) ++ (a.toList.drop (cs.length / s * s))).toArray := by simp
        obtain ⟨r1, r2⟩ := new_row hR hn (vs := a.toList.take (cs.length / s * s)) (es := rowOf s cs) (s := s) t (a.toList.drop (cs.length / s * s)) (0, 0) q1
          (by rw [q2]; exact fun y hy => hfl y (List.mem_of_mem_take hy)) (by rw [q2]; exact hrl.take _) (unfrozen0 _)
        rw [← e1] at r1 r2
        refine ⟨_, _, _, hrun h1 h2, ?_, r1, r2⟩
        have := RL.hp (w := w.alloc (.cells a t)) (I := I) (ρ := upd ρ nm (some (w.heap.size, s))) nm 0 0 w.heap.size s (upd_same _ _ _) RL.nil
        show R (w.alloc (.cells a t)) I _ _ _
        simpa using this
      · cases ho
    · cases ho
  · cases ho
  · rename_i z' d h1 hz hu
    split at ho
    · rename_i hst
      cases ho
      obtain ⟨i, z, h1, h2, h3⟩ := zeroE_some hz
      obtain ⟨r1, r2, r3⟩ := new_box hR hn t (h3 w I ρ) hst
      exact ⟨_, _, _, hrun h1 h2, r3, r1, r2⟩
    · cases ho
  · cases ho
end
end Go.Dm
set_option linter.unusedSimpArgs false
set_option linter.unusedVariables false
namespace Go.Dm

section
variable {P : Program} {w0 w : World} {O I0 I : Nat → Prop} {ρ : Rho} {g : Nat → Option Obj} {used : Nat → Prop} {nm : Nat}

/-- What an operation with a new object leaves. -/
abbrev Leaves (w0 : World) (O I0 : Nat → Prop) (g' : Nat → Option Obj) (used' : Nat → Prop) (w : World) (I : Nat → Prop) (ρ : Rho) (res : Result Value) (x : V) : Prop :=
  ∃ v w' I' ρ', res = .ok v w' ∧ R w' I' ρ' v x ∧ Rel w0 O I0 I' ρ' g' used' w' ∧ Ext w I ρ w' I' ρ'

theorem deep_live {n : Nat} (hR : Rel w0 O I0 I ρ g used w) {x : V} {v : Value} {y : V} {ks : List Nat} (hd : deep g n x = some (y, ks)) (hv : R w I ρ v x) :
    Rel w0 O I0 (freezeI I ρ ks) ρ (applyU (kills ks) g) used w ∧ Ext w I ρ w (freezeI I ρ ks) ρ ∧ R w (freezeI I ρ ks) rho0 v y ∧ y.width = x.width ∧ y.sto = true := by
  obtain ⟨h1, ⟨h2, h3, _⟩, h4⟩ := deep_sound hR n _ _ _ _ hd hv
  obtain ⟨a, b⟩ := hR.freezes ks h1
  exact ⟨a, b, h4 _ (freezeI_of I ρ ks).1 (freezeI_of I ρ ks).2, h2, h3⟩

theorem run_box (e : TypeId) (v : Value) : (Instr.box e v).run P w = .ok (.pointer (some ⟨w.heap.size, 0, none⟩)) (w.alloc (.cells v.cells e)) := by
  simp [Instr.box, newVar, newRow]

theorem snd_box0 {e : TypeId} {v : Value} {x : V} (hR : Rel w0 O I0 I ρ g used w) (hn : ¬ used nm) (hv : R w I ρ v x) (hs : x.sto = true) :
    Leaves w0 O I0 (upd g nm (some (.box x.cells))) (fun h => used h ∨ h = nm) w I ρ ((Instr.box e v).run P w) (.hp nm 0 0) := by
  obtain ⟨r1, r2, r3⟩ := new_box hR hn e hv hs
  exact ⟨_, _, _, _, run_box e v, r3, r1, r2⟩

theorem snd_boxS {e : TypeId} {v : Value} {x y : V} {s : Nat} {ks : List Nat} (hR : Rel w0 O I0 I ρ g used w) (hn : ¬ used nm) (hv : R w I ρ v x) (h0 : 0 < s) (hd : deep g 6 x = some (y, ks)) :
    Leaves w0 O I0 (upd (applyU (kills ks) g) nm (some (.row (rowOf s y.cells) s))) (fun h => used h ∨ h = nm) w I ρ ((Instr.box e v).run P w) (.hp nm 0 0) := by
  obtain ⟨r1, r2, r3, _, r4⟩ := deep_live hR hd hv
  obtain ⟨c1, c2⟩ := R_cells r3 r4
  obtain ⟨q1, q2, q3⟩ := rowOf_spec h0 c2
  have e1 : v.cells = ((v.cells.toList.take (y.cells.length / s * s)) ++ (v.cells.toList.drop (y.cells.length / s * s))).toArray := by simp
  obtain ⟨s1, s2⟩ := new_row r1 hn (vs := v.cells.toList.take (y.cells.length / s * s)) (es := rowOf s y.cells) (s := s) e (v.cells.toList.drop (y.cells.length / s * s)) (0, 0) q1
    (by rw [q2]; exact fun y hy => c2 y (List.mem_of_mem_take hy)) (by rw [q2]; exact c1.take _) (unfrozen0 _)
  rw [← e1] at s1 s2
  refine ⟨_, _, _, _, run_box e v, ?_, s1, r2.trans s2⟩
  have := RL.hp (w := w.alloc (.cells v.cells e)) (I := freezeI I ρ ks) (ρ := upd ρ nm (some (w.heap.size, s))) nm 0 0 w.heap.size s (upd_same _ _ _) RL.nil
  simpa using this

theorem bytesV_cells (l : List UInt8) : cellsL (bytesV l) = bytesV l := by
  induction l with
  | nil => rfl
  | cons b l ih =>
    have : bytesV (b :: l) = .int .u8 (b.toNat : Int) :: bytesV l := rfl
    rw [this, cellsL_cons, ih]; rfl
theorem bytesV_flat (l : List UInt8) : flatL (bytesV l) := by
  intro y hy
  simp only [bytesV, List.mem_map] at hy
  obtain ⟨b, _, rfl⟩ := hy
  rfl
theorem bytesV_width (l : List UInt8) : ∀ x ∈ bytesV l, x.width = 1 := by
  intro y hy
  simp only [bytesV, List.mem_map] at hy
  obtain ⟨b, _, rfl⟩ := hy
  rfl
theorem bytesV_R (w : World) (I : Nat → Prop) (ρ : Rho) (l : List UInt8) : RL w I ρ (l.map fun (b : UInt8) => Value.int .u8 (b.toNat : Int)) (bytesV l) := by
  induction l with
  | nil => exact RL.nil
  | cons b l ih => exact RL.int _ _ ih

theorem bytesWorld_eq (w : World) (e : TypeId) (s : ByteArray) : Lib.bytesWorld w e s = w.drew.alloc (.cells (Lib.bytesCells w e s) e ((Lib.bytesCells w e s).size, (Lib.bytesCells w e s).size + 1)) := by
  have hh : (Lib.bytesWorld w e s).heap = (w.drew.alloc (.cells (Lib.bytesCells w e s) e ((Lib.bytesCells w e s).size, (Lib.bytesCells w e s).size + 1))).heap := by
    apply Array.ext_getElem?
    intro j
    rcases Nat.lt_trichotomy j w.heap.size with h | h | h
    · rw [Lib.bytesWorld_at_old w e s j h, heap_alloc_old w.drew _ j h]; rfl
    · subst h; rw [Lib.bytesWorld_at_new]; exact (heap_alloc_new w.drew _).symm
    · rw [Array.getElem?_eq_none (by rw [Lib.bytesWorld_size]; omega), Array.getElem?_eq_none (by rw [World.size_alloc]; simp; omega)]
  have h1 : (Lib.bytesWorld w e s).tape = w.tape := by simp [Lib.bytesWorld, World.freeze, World.alloc, World.drew, -World.alloc_eq, -World.drew_eq]
  have h2 : (Lib.bytesWorld w e s).drawn = w.drawn + 1 := by simp [Lib.bytesWorld, World.freeze, World.alloc, World.drew, -World.alloc_eq, -World.drew_eq]
  have h3 : (Lib.bytesWorld w e s).os = w.os := by simp [Lib.bytesWorld, World.freeze, World.alloc, World.drew, -World.alloc_eq, -World.drew_eq]
  have h4 : (Lib.bytesWorld w e s).output = w.output := by simp [Lib.bytesWorld, World.freeze, World.alloc, World.drew, -World.alloc_eq, -World.drew_eq]
  cases hb : Lib.bytesWorld w e s with
  | mk heap tape drawn os output =>
    rw [hb] at hh h1 h2 h3 h4
    simp only at hh h1 h2 h3 h4
    subst hh h1 h2 h3 h4
    rfl

theorem snd_s2b {t d e : TypeId} {v : Value} {l : List UInt8} (hR : Rel w0 O I0 I ρ g used w) (hn : ¬ used nm) (ht : P.underlying t = some .string) (hd : P.underlying d = some (.slice e)) (he : P.underlying e = some (.int .u8))
    (hv : R w I ρ v (.str l)) (hroom : l.length ≤ roomBytes) :
    Leaves w0 O I0 (upd g nm (some (.row (bytesV l) 1))) (fun h => used h ∨ h = nm) w I ρ ((convert t d v).run P w) (.hs nm 0 l.length) := by
  cases inv_str hv
  have hsz : (ByteArray.mk l.toArray).size = l.length := by simp [ByteArray.size]
  have hc2 : l.length ≤ grownCap w l.length 0 e := by have := grownCap_ge w l.length 0 e; exact this
  generalize hcap : grownCap w l.length 0 e = cap at hc2
  have hC : Lib.bytesCells w e ⟨l.toArray⟩ = ((l.map fun (b : UInt8) => Value.int .u8 (b.toNat : Int)) ++ List.replicate (cap - l.length) (Value.int .u8 0)).toArray := by
    apply Array.ext'
    simp [Lib.bytesCells, hsz, hcap]
  have hCs : (Lib.bytesCells w e ⟨l.toArray⟩).size = cap := by rw [hC]; simp; omega
  have hrun := Lib.run_convert_string_bytes w t d e ⟨l.toArray⟩ ht hd he
  rw [hsz, hcap, bytesWorld_eq, hCs, hC] at hrun
  obtain ⟨r1, r2⟩ := new_row hR.drew hn (vs := l.map fun (b : UInt8) => Value.int .u8 (b.toNat : Int)) (es := bytesV l) (s := 1) e (List.replicate (cap - l.length) (Value.int .u8 0)) (cap, cap + 1) (bytesV_width l)
    (by rw [bytesV_cells]; exact bytesV_flat l) (by rw [bytesV_cells]; exact bytesV_R _ _ _ l) (fun j hj h => by simp at hj h; omega)
  refine ⟨_, _, _, _, hrun, R_row (upd_same _ _ _) hc2 ?_, r1, (Ext.drew w I ρ).trans r2⟩
  have := csize_new w.drew ((l.map fun (b : UInt8) => Value.int .u8 (b.toNat : Int)) ++ List.replicate (cap - l.length) (Value.int .u8 0)).toArray e (cap, cap + 1)
  simp at this ⊢
  rw [this]
  omega

theorem madeCells_eq (zs : Array Value) (c s : Nat) (h : zs.size = s) (h0 : 0 < s) : madeCells zs (c * s) = ((List.replicate c zs.toList).flatten).toArray := by
  have := range_cycle zs.toList (by simpa [h] using h0) default c
  rw [← this]
  apply Array.ext'
  simp only [madeCells, Array.toList_map, Array.toList_range, Array.length_toList, h]
  apply List.map_congr_left
  intro i hi
  have hm : i % s < zs.size := by rw [h]; exact Nat.mod_lt _ h0
  rw [getElem!_pos zs _ hm]
  simp [List.getD_eq_getElem?_getD, hm]

theorem snd_mksl {t e : TypeId} {s b : Nat} {z : V} {zv : Value} {k1 k2 : IntKind} {l c : Nat} (hR : Rel w0 O I0 I ρ g used w) (hn : ¬ used nm) (ht : P.underlying t = some (.slice e)) (hi : infT P e = some (s, b, zv)) (hz : zeroE P e = some z)
    (h0 : 0 < s) (hlc : l ≤ c) (hroom : c * b ≤ roomMake) (hc63 : c ≤ 9223372036854775807) (hzw : z.width = s) (hzs : z.sto = true) :
    Leaves w0 O I0 (upd g nm (some (.row (List.replicate c z) s))) (fun h => used h ∨ h = nm) w I ρ ((Instr.makeSlice t (.int k1 (l : Int)) (.int k2 (c : Int))).run P w) (.hs nm 0 l) := by
  obtain ⟨i, h1, h2, h3, h4⟩ := infT_some hi
  obtain ⟨i', z', g1, g2, g3⟩ := zeroE_some hz
  rw [h1] at g1; cases g1
  rw [h4] at g2; cases g2
  have hzr := g3 w I rho0
  obtain ⟨c1, c2⟩ := R_cells hzr hzs
  have hzl : zv.cells.size = s := by rw [← hzw, ← cells_length, ← c1.length]; simp
  have hrun : (Instr.makeSlice t (.int k1 (l : Int)) (.int k2 (c : Int))).run P w = .ok (.slice (some ⟨w.heap.size, 0, none⟩) l c)
      (w.alloc (.cells ((List.replicate c zv.cells.toList).flatten).toArray e)) := by
    have := run_make w t e i zv ht h1 h4 k1 k2 (l : Int) (c : Int) (by omega) (by omega) (by
      rw [h3, ← Int.natCast_mul]
      have h5 : b * c ≤ 281474976710656 := by rw [Nat.mul_comm]; exact hroom
      generalize b * c = q at h5 ⊢
      omega) (by omega)
    rw [Int.toNat_natCast, Int.toNat_natCast, h2, madeCells_eq _ _ _ hzl h0] at this
    exact this
  obtain ⟨r1, r2⟩ := new_row hR hn (vs := (List.replicate c zv.cells.toList).flatten) (es := List.replicate c z) (s := s) e [] (0, 0)
    (fun x hx => by rw [List.eq_of_mem_replicate hx]; exact hzw) (flatL_replicate c2 c) (RL_replicate c1 c) (unfrozen0 _)
  rw [List.append_nil] at r1 r2
  refine ⟨_, _, _, _, hrun, R_row (upd_same _ _ _) hlc ?_, r1, r2⟩
  rw [csize_new]
  simp [hzl]
end
end Go.Dm
set_option linter.unusedSimpArgs false
set_option linter.unusedVariables false
namespace Go.Dm

/-- Two lists, member by member. -/
inductive F2 {α β : Type} (p : α → β → Prop) : List α → List β → Prop
  | nil : F2 p [] []
  | cons {a : α} {b : β} {as : List α} {bs : List β} : p a b → F2 p as bs → F2 p (a :: as) (b :: bs)

section
variable {P : Program} {w0 w : World} {O I0 I : Nat → Prop} {ρ : Rho} {g : Nat → Option Obj} {used : Nat → Prop} {nm : Nat}

theorem fold_splice (off : Nat) : ∀ (vs : List Value) (k : Nat) (cells : Array Value), off + k + vs.length ≤ cells.size →
    ((vs.zipIdx k).foldl (fun cs (c, j) => cs.setIfInBounds (off + j) c) cells).toList = spliceL cells.toList (off + k) vs
  | [], k, cells, _ => by simp [spliceL_nil]
  | v :: vs, k, cells, h => by
    simp only [List.length_cons] at h
    rw [List.zipIdx_cons, List.foldl_cons]
    rw [fold_splice off vs (k + 1) (cells.setIfInBounds (off + k) v) (by simp; omega), Array.toList_setIfInBounds, ← Nat.add_assoc]
    exact spliceL_cons _ _ _ _ (by simp; omega)

theorem fill_sound {w : World} {I : Nat → Prop} {ρ : Rho} (place : Nat → Option (Nat × Nat)) : ∀ (ps : List (Nat × Value)) (qs : List (Nat × Nat × V)) (cells : Array Value) (xs xs' : List V),
    F2 (fun p q => place p.1 = some (q.1, q.2.1) ∧ R w I ρ p.2 q.2.2) ps qs → RL w I ρ cells.toList xs → flatL xs → splices qs xs = some xs' →
    ∃ cells', Instr.fill place cells ps = some cells' ∧ RL w I ρ cells'.toList xs' ∧ flatL xs'
  | [], [], cells, xs, xs', _, h2, h3, h4 => by
    simp [splices] at h4; subst h4
    exact ⟨cells, rfl, h2, h3⟩
  | (i, v) :: ps, (off, n, x) :: qs, cells, xs, xs', h1, h2, h3, h4 => by
    cases h1 with
    | cons h1 h1' =>
      obtain ⟨a1, a2⟩ := h1
      simp only at a1 a2
      simp only [splices] at h4
      split at h4
      · rename_i hh
        obtain ⟨hs, hw, hl⟩ := hh
        obtain ⟨c1, c2⟩ := R_cells a2 hs
        have hvs : v.cells.size = n := by rw [← hw, ← cells_length, ← c1.length]; simp
        have hxl := h2.length
        have hoff : off + v.cells.size ≤ cells.size := by rw [hvs]; simp at hxl; omega
        have hfold := fold_splice off v.cells.toList 0 cells (by simpa using hoff)
        simp only [Nat.add_zero] at hfold
        have hfold' : ((v.cells.zipIdx.foldl (fun cs (x : Value × Nat) => cs.setIfInBounds (off + x.2) x.1) cells)).toList = spliceL cells.toList off v.cells.toList := by
          rw [← hfold, ← Array.foldl_toList]
          simp
        obtain ⟨cells', e1, e2, e3⟩ := fill_sound place ps qs (v.cells.zipIdx.foldl (fun cs (x : Value × Nat) => cs.setIfInBounds (off + x.2) x.1) cells) _ xs' h1'
          (by rw [hfold']; exact h2.splice c1 off) (flatL_splice h3 c2 off) h4
        refine ⟨cells', ?_, e2, e3⟩
        simp only [Instr.fill, a1]
        rw [if_neg (by simp [hvs]; omega)]
        exact e1
      · cases h4
  | [], _ :: _, _, _, _, h, _, _, _ => by cases h
  | _ :: _, [], _, _, _, h, _, _, _ => by cases h

theorem cParts_sound {a : Act} {env : Nat → V} (hE : EnvR w I ρ a env) (f : Nat → Option (Nat × Nat)) : ∀ (parts : List (Nat × Operand)) (ps : List (Nat × Nat × X)), cParts f parts = some ps →
    F2 (fun p q => f p.1 = some (q.1, q.2.1) ∧ R w I ρ p.2 q.2.2) (parts.map fun p => (p.1, a.eval p.2)) (ps.map fun p => (p.1, p.2.1, evX env p.2.2))
  | [], ps, h => by simp [cParts] at h; subst h; exact .nil
  | (i, o) :: r, ps, h => by
    simp only [cParts] at h
    split at h
    · rename_i off n x xs h1 h2 h3
      cases h
      exact .cons ⟨h1, cX_sound hE h2⟩ (cParts_sound hE f r xs h3)
    · cases h

theorem built_info {t : TypeId} {z : V} (h : zeroE P t = some z) : ∃ i zv, P.info? t = some i ∧ i.zero = some zv ∧ (∀ (w : World) (I : Nat → Prop) (ρ : Rho), R w I ρ zv z) := zeroE_some h

theorem snd_buildS {t : TypeId} {fs : Array Field} {z : List V} {pl : List (Nat × Nat)} {parts : Array (Nat × Operand)} {ps : List (Nat × Nat × X)} {a : Act} {env : Nat → V} {cs : List V}
    (hE : EnvR w I ρ a env) (hu : P.underlying t = some (.struct fs)) (hz : zeroE P t = some (.agg z)) (hpl : fs.toList.mapM (fun f => (P.info? f.type).map fun i => (f.offset, i.size)) = some pl)
    (hps : cParts (pl.toArray[·]?) parts.toList = some ps) (hx : splices (ps.map fun p => (p.1, p.2.1, evX env p.2.2)) z = some cs) :
    ∃ v, (Instr.build t (parts.map fun (i, x) => (i, a.eval x))).run P w = .ok v w ∧ R w I ρ v (.agg cs) := by
  obtain ⟨i, zv, h1, h2, h3⟩ := zeroE_some hz
  obtain ⟨za, rfl, hfl, hrl⟩ := inv_agg (h3 w I ρ)
  obtain ⟨cells', e1, e2, e3⟩ := fill_sound _ _ _ za z cs (cParts_sound hE _ _ _ hps) hrl hfl hx
  refine ⟨.agg cells', run_build w t _ cells' ?_, RL.agg _ _ e3 e2 RL.nil⟩
  have e1' : Instr.fill (fun x => pl.toArray[x]?) za (parts.toList.map fun p => (p.1, a.eval p.2)) = some cells' := e1
  simp only [Program.built, h1, hu, h2, hpl, Value.cells]
  rw [← e1']
  congr 1
  simp

theorem snd_buildA {t e : TypeId} {n s : Nat} {z : List V} {parts : Array (Nat × Operand)} {ps : List (Nat × Nat × X)} {a : Act} {env : Nat → V} {cs : List V}
    (hE : EnvR w I ρ a env) (hu : P.underlying t = some (.array n e)) (hz : zeroE P t = some (.agg z)) (hs : sizT P e = some s)
    (hps : cParts (fun i => some (i * s, s)) parts.toList = some ps) (hx : splices (ps.map fun p => (p.1, p.2.1, evX env p.2.2)) z = some cs) :
    ∃ v, (Instr.build t (parts.map fun (i, x) => (i, a.eval x))).run P w = .ok v w ∧ R w I ρ v (.agg cs) := by
  obtain ⟨i, zv, h1, h2, h3⟩ := zeroE_some hz
  obtain ⟨za, rfl, hfl, hrl⟩ := inv_agg (h3 w I ρ)
  obtain ⟨cells', e1, e2, e3⟩ := fill_sound _ _ _ za z cs (cParts_sound hE _ _ _ hps) hrl hfl hx
  refine ⟨.agg cells', run_build w t _ cells' ?_, RL.agg _ _ e3 e2 RL.nil⟩
  unfold sizT at hs
  cases hie : P.info? e with
  | none => simp [hie] at hs
  | some ie =>
    simp [hie] at hs
    subst hs
    simp only [Program.built, h1, hu, h2, hie, Value.cells]
    rw [← e1]
    congr 1
    simp

/-- A slice's literal. -/
theorem fill_rows {w : World} {I : Nat → Prop} {ρ : Rho} {s : Nat} : ∀ (ps : List (Nat × Value)) (qs : List (Nat × V)) (cells : Array Value) (es : List V),
    F2 (fun p q => p.1 = q.1 ∧ R w I ρ p.2 q.2 ∧ q.2.sto = true ∧ q.2.width = s ∧ q.1 < es.length) ps qs → (∀ e ∈ es, e.width = s) → flatL (cellsL es) → RL w I ρ cells.toList (cellsL es) →
    ∃ cells', Instr.fill (fun i => some (i * s, s)) cells ps = some cells' ∧ RL w I ρ cells'.toList (cellsL (setParts qs es)) ∧ flatL (cellsL (setParts qs es)) ∧ (∀ e ∈ setParts qs es, e.width = s) ∧ (setParts qs es).length = es.length
  | [], [], cells, es, _, h2, h3, h4 => ⟨cells, rfl, h4, h3, h2, rfl⟩
  | (i, v) :: ps, (i', x) :: qs, cells, es, h1, h2, h3, h4 => by
    cases h1 with
    | cons h1 h1' =>
      obtain ⟨rfl, a2, a3, a4, a5⟩ := h1
      simp only at a2 a3 a4 a5
      obtain ⟨c1, c2⟩ := R_cells a2 a3
      have hvs : v.cells.size = s := by rw [← a4, ← cells_length, ← c1.length]; simp
      have hxl := h4.length
      rw [cellsL_length h2] at hxl
      have hle : i * s + s ≤ es.length * s := by
        have := Nat.mul_le_mul_right s (show i + 1 ≤ es.length from a5)
        rwa [Nat.succ_mul] at this
      have hoff : i * s + v.cells.size ≤ cells.size := by rw [hvs]; simp at hxl; omega
      have hfold := fold_splice (i * s) v.cells.toList 0 cells (by simpa using hoff)
      simp only [Nat.add_zero] at hfold
      have hfold' : ((v.cells.zipIdx.foldl (fun cs (x : Value × Nat) => cs.setIfInBounds (i * s + x.2) x.1) cells)).toList = spliceL cells.toList (i * s) v.cells.toList := by
        rw [← hfold, ← Array.foldl_toList]
        simp
      have hset := cellsL_set h2 a5 a4
      obtain ⟨cells', e1, e2, e3, e4, e5⟩ := fill_rows ps qs (v.cells.zipIdx.foldl (fun cs (x : Value × Nat) => cs.setIfInBounds (i * s + x.2) x.1) cells) (es.set i x)
        (by simpa using h1') (mem_width_set h2 i a4) (by rw [hset]; exact flatL_splice h3 c2 _) (by rw [hfold', hset]; exact h4.splice c1 _)
      refine ⟨cells', ?_, e2, e3, e4, by simpa [setParts] using e5⟩
      simp only [Instr.fill]
      rw [if_neg (by simp [hvs]; omega)]
      exact e1
  | [], _ :: _, _, _, h, _, _, _ => by cases h
  | _ :: _, [], _, _, h, _, _, _ => by cases h

theorem deepParts_sound (hR : Rel w0 O I0 I ρ g used w) : ∀ (ps : List (Nat × Value)) (qs : List (Nat × V)) (rs : List (Nat × V)) (ks : List Nat), F2 (fun p q => p.1 = q.1 ∧ R w I ρ p.2 q.2) ps qs → deepParts g qs = some (rs, ks) →
    (∀ h ∈ ks, ∃ o, g h = some o) ∧ ∀ I'' : Nat → Prop, (∀ b, I b → I'' b) → (∀ h ∈ ks, ∀ b s, ρ h = some (b, s) → I'' b) →
      F2 (fun p r => p.1 = r.1 ∧ R w I'' rho0 p.2 r.2 ∧ r.2.sto = true) ps rs
  | [], [], rs, ks, _, h => by
    simp [deepParts] at h
    obtain ⟨rfl, rfl⟩ := h
    exact ⟨by simp, fun _ _ _ => .nil⟩
  | (i, v) :: ps, (i', x) :: qs, rs, ks, h1, h => by
    cases h1 with
    | cons h1 h1' =>
      obtain ⟨rfl, a2⟩ := h1
      simp only [deepParts] at h
      split at h
      · rename_i y k hy
        split at h
        · rename_i ys ks' hys
          cases h
          obtain ⟨b1, ⟨b2, b3, _⟩, b4⟩ := deep_sound hR 6 _ _ _ _ hy a2
          obtain ⟨c1, c2⟩ := deepParts_sound hR ps qs ys ks' h1' hys
          refine ⟨fun h hh => ?_, fun I'' g1 g2 => .cons ⟨rfl, b4 I'' g1 fun h hh => g2 h (by simp [hh]), b3⟩ (c2 I'' g1 fun h hh => g2 h (by simp [hh]))⟩
          rcases List.mem_append.1 hh with hh | hh
          · exact b1 h hh
          · exact c1 h hh
        · cases h
      · cases h
  | [], _ :: _, _, _, h, _ => by cases h
  | _ :: _, [], _, _, h, _ => by cases h

theorem cPartsE_sound {a : Act} {env : Nat → V} (hE : EnvR w I ρ a env) : ∀ (parts : List (Nat × Operand)) (ps : List (Nat × X)), cPartsE parts = some ps →
    F2 (fun p q => p.1 = q.1 ∧ R w I ρ p.2 q.2) (parts.map fun p => (p.1, a.eval p.2)) (ps.map fun p => (p.1, evX env p.2))
  | [], ps, h => by simp [cPartsE] at h; subst h; exact .nil
  | (i, o) :: r, ps, h => by
    simp only [cPartsE] at h
    split at h
    · rename_i x xs h1 h2
      cases h
      exact .cons ⟨rfl, cX_sound hE h1⟩ (cPartsE_sound hE r xs h2)
    · cases h

theorem forall₂_and {α β : Type} {p q : α → β → Prop} : ∀ {as : List α} {bs : List β}, F2 p as bs → (∀ b ∈ bs, ∀ a, p a b → q a b) → F2 q as bs
  | [], [], _, _ => .nil
  | a :: as, b :: bs, h, hq => by
    cases h with
    | cons h1 h2 => exact .cons (hq b (by simp) a h1) (forall₂_and h2 fun b hb a => hq b (by simp [hb]) a)
  | [], _ :: _, h, _ => by cases h
  | _ :: _, [], h, _ => by cases h

theorem snd_bsl {t e : TypeId} {n s b : Nat} {zv : Value} {z : V} {parts : Array (Nat × Operand)} {ps : List (Nat × X)} {a : Act} {env : Nat → V} {rs : List (Nat × V)} {ks : List Nat}
    (hR : Rel w0 O I0 I ρ g used w) (hn : ¬ used nm) (hE : EnvR w I ρ a env) (hu : P.underlying t = some (.slice e)) (hi : infT P e = some (s, b, zv)) (hz : zeroE P e = some z) (h0 : 0 < s) (hlim : n * s ≤ 16777216)
    (hps : cPartsE parts.toList = some ps) (hd : deepParts g (ps.map fun p => (p.1, evX env p.2)) = some (rs, ks)) (hzs : z.sto = true) (hzw : z.width = s)
    (hall : rs.all (fun p => p.2.width == s && decide (p.1 < n)) = true) :
    ∃ v w' I' ρ', (Instr.buildSlice t n (parts.map fun (i, x) => (i, a.eval x))).run P w = .ok v w' ∧ Rel w0 O I0 I' ρ' (upd (applyU (kills ks) g) nm (some (.row (setParts rs (List.replicate n z)) s))) (fun h => used h ∨ h = nm) w' ∧
      Ext w I ρ w' I' ρ' ∧ v = .slice (some ⟨w.heap.size, 0, none⟩) n n ∧ R w' I' ρ' v (.hs nm 0 n) := by
  obtain ⟨i, h1, h2, h3, h4⟩ := infT_some hi
  obtain ⟨i', z', g1, g2, g3⟩ := zeroE_some hz
  rw [h1] at g1; cases g1
  rw [h4] at g2; cases g2
  obtain ⟨d1, d2⟩ := deepParts_sound hR _ _ _ _ (cPartsE_sound hE _ _ hps) hd
  obtain ⟨f1, f2⟩ := hR.freezes ks d1
  have d3 := d2 _ (freezeI_of I ρ ks).1 (freezeI_of I ρ ks).2
  have hzr := g3 w (freezeI I ρ ks) rho0
  obtain ⟨c1, c2⟩ := R_cells hzr hzs
  have hzl : zv.cells.size = s := by rw [← hzw, ← cells_length, ← c1.length]; simp
  have d4 := forall₂_and (q := fun (p : Nat × Value) (r : Nat × V) => p.1 = r.1 ∧ R w (freezeI I ρ ks) rho0 p.2 r.2 ∧ r.2.sto = true ∧ r.2.width = s ∧ r.1 < (List.replicate n z).length) d3 (fun r hr p hp => by
    have := List.all_eq_true.1 hall r hr
    simp at this
    exact ⟨hp.1, hp.2.1, hp.2.2, this.1, by simpa using this.2⟩)
  obtain ⟨cells', e1, e2, e3, e4, e5⟩ := fill_rows _ _ (((List.replicate n zv.cells.toList).flatten).toArray) _ d4
    (fun x hx => by rw [List.eq_of_mem_replicate hx]; exact hzw) (flatL_replicate c2 n) (by simpa using RL_replicate c1 n)
  have hrun : (Instr.buildSlice t n (parts.map fun (i, x) => (i, a.eval x))).run P w = .ok (.slice (some ⟨w.heap.size, 0, none⟩) n n) (w.alloc (.cells cells' e)) := by
    have hm := madeCells_eq zv.cells n s hzl h0
    have e1' : Instr.fill (fun i => some (i * s, s)) (madeCells zv.cells (n * s)) (parts.toList.map fun p => (p.1, a.eval p.2)) = some cells' := by rw [hm]; exact e1
    have hl : ¬ 16777216 < n * s := by omega
    have hl' : ¬ n * s > 2 ^ 24 := by omega
    have hrow : ∀ W : World, (newRow e cells').run P W = .ok ⟨W.heap.size, 0, none⟩ (W.alloc (.cells cells' e)) := fun W => by simp [newRow]
    have hpl : (parts.map fun x => (x.fst, a.eval x.snd)).toList = parts.toList.map fun p => (p.1, a.eval p.2) := by simp
    simp only [Instr.buildSlice, Sem.run_bind, run_underlying hu, Result.andThen_ok, sizeOf, typeInfo, program, Sem.run, h1, h2, Sem.run_pure]
    rw [if_neg hl']
    by_cases hns : n * s = 0
    · have hz0 : madeCells zv.cells (n * s) = #[] := by rw [hns]; simp [madeCells]
      rw [hz0] at e1'
      have e2' : Instr.fill (fun i => some (i * s, s)) ((Array.range (n * s)).map fun x => (#[] : Array Value)[x % (#[] : Array Value).size]!) (parts.map fun x => (x.fst, a.eval x.snd)).toList = some cells' := by
        rw [hpl, hns]
        simpa [Array.range_zero'] using e1'
      rw [if_pos hns]
      simp only [Sem.run_bind, Sem.run_pure, Result.andThen_ok, e2', hrow]
    · have e2' : Instr.fill (fun i => some (i * s, s)) ((Array.range (n * s)).map fun x => zv.cells[x % zv.cells.size]!) (parts.map fun x => (x.fst, a.eval x.snd)).toList = some cells' := by
        rw [hpl]
        exact e1'
      rw [if_neg hns]
      simp only [Sem.run_bind, Sem.run_pure, Result.andThen_ok, zeroValue, typeInfo, program, Sem.run, h1, h4, e2', hrow]
  obtain ⟨r1, r2⟩ := new_row f1 hn (vs := cells'.toList) (es := setParts rs (List.replicate n z)) (s := s) e [] (0, 0) e4 e3 e2 (unfrozen0 _)
  simp only [List.append_nil, Array.toArray_toList] at r1 r2
  refine ⟨_, _, _, _, hrun, r1, f2.trans r2, rfl, R_row (upd_same _ _ _) (Nat.le_refl _) ?_⟩
  rw [csize_new]
  have := e2.length
  rw [cellsL_length e4, e5] at this
  simp at this
  omega
end
end Go.Dm
set_option linter.unusedSimpArgs false
set_option linter.unusedVariables false
namespace Go.Dm

theorem spliceL_take {α : Type} (cs : List α) (o : Nat) (vs : List α) (n : Nat) (h : o + vs.length ≤ n) : (spliceL cs o vs).take n = spliceL (cs.take n) o vs := by
  by_cases hn : n ≤ cs.length
  · unfold spliceL
    have h1 : (cs.take o).length = o := by simp; omega
    have e1 : min o n = o := by omega
    rw [List.append_assoc, List.take_append, List.take_append, h1, List.take_take, List.take_take, Nat.min_comm n o, e1, List.append_assoc]
    congr 1
    rw [List.take_of_length_le (show vs.length ≤ n - o by omega), List.drop_take]
    congr 2
    omega
  · have hn' : cs.length ≤ n := by omega
    rw [List.take_of_length_le hn']
    apply List.take_of_length_le
    simp only [spliceL, List.length_append, List.length_take, List.length_drop]
    omega
theorem spliceL_one {α : Type} (cs : List α) (o : Nat) (v : α) (h : o < cs.length) : spliceL cs o [v] = cs.set o v := by
  rw [List.set_eq_take_append_cons_drop, if_pos h]
  simp [spliceL]

theorem cellsL_set_sub {s i f : Nat} {es : List V} {cs : List V} {y : V} (h : ∀ e ∈ es, e.width = s) (he : es[i]? = some (.agg cs)) (hf : f < s) :
    cellsL (es.set i (.agg (cs.set f y))) = (cellsL es).set (i * s + f) y := by
  obtain ⟨hi, hh⟩ := List.getElem?_eq_some_iff.1 he
  have hw : cs.length = s := by have := h _ (List.getElem_mem hi); rw [hh] at this; exact this
  rw [cellsL_set h hi (by simp [V.width, hw])]
  have hc := cellsL_at h he
  simp only [V.cells] at hc ⊢
  have hlen := cellsL_length h
  have hle : i * s + s ≤ es.length * s := by
    have := Nat.mul_le_mul_right s (show i + 1 ≤ es.length from hi)
    rwa [Nat.succ_mul] at this
  apply List.ext_getElem?
  intro j
  simp only [spliceL, List.getElem?_append, List.length_append, List.length_take, List.getElem?_take, List.getElem?_drop, List.getElem?_set, List.length_set, hw]
  rw [show min (i * s) (cellsL es).length = i * s by omega]
  have hget : ∀ k, k < s → cs[k]? = (cellsL es)[i * s + k]? := by
    intro k hk
    rw [← hc, List.getElem?_take, if_pos hk, List.getElem?_drop]
  by_cases h1 : j < i * s
  · rw [if_pos (by omega), if_pos h1, if_pos h1, if_neg (by omega)]
  · by_cases h2 : j < i * s + s
    · rw [if_pos h2, if_neg h1]
      by_cases h3 : j = i * s + f
      · subst h3
        rw [if_pos (by omega), if_pos rfl, if_pos (by omega), if_pos (by omega)]
      · rw [if_neg (by omega), if_neg (by omega), hget _ (by omega)]
        congr 1
        omega
    · rw [if_neg h2, if_neg (by omega)]
      congr 1
      omega

section
variable {P : Program} {w0 w : World} {O I0 I : Nat → Prop} {ρ : Rho} {g : Nat → Option Obj} {used : Nat → Prop} {nm : Nat}

theorem applyU_set (h : Nat) (o : Option Obj) (ks : List Nat) (hk : h ∉ ks) (g : Nat → Option Obj) : applyU ((h, o) :: kills ks) g = upd (applyU (kills ks) g) h o := by
  funext k
  show applyU (kills ks) (upd g h o) k = _
  rw [applyU_kills]
  by_cases e : k = h
  · subst e; simp [hk, upd]
  · rw [upd_ne _ _ e, upd_ne _ _ e, applyU_kills]

theorem csize_put_cells {w : World} {b : Nat} {cs : Array Value} {e : TypeId} {fr : Nat × Nat} (hb : w.heap[b]? = some (.cells cs e fr)) (o : Nat) (vs : List Value) (h : o + vs.length ≤ cs.size) :
    csize w b ≤ csize (put w b (.cells (spliceL cs.toList o vs).toArray e fr)) b := by
  have hlt : b < w.heap.size := (Array.getElem?_eq_some_iff.1 hb).1
  unfold csize
  rw [put_get hlt, hb]
  simp [spliceL_length _ _ _ (show o + vs.length ≤ cs.toList.length by simpa using h)]

/-- A row's cells written. -/
theorem write_row (hR : Rel w0 O I0 I ρ g used w) {h b s o : Nat} {es es' : List V} {vs : List Value} {cs : Array Value} {e : TypeId} {fr : Nat × Nat} (hg : g h = some (.row es s)) (hr : ρ h = some (b, s))
    (hb : w.heap[b]? = some (.cells cs e fr)) (hfr : unfrozen cs.size fr) (hrl : RL w I rho0 (cs.toList.take (cellsL es).length) (cellsL es)) (hle : o + vs.length ≤ (cellsL es).length)
    (xs : List V) (hvs : RL w I rho0 vs xs) (hxs : flatL xs) (hes : cellsL es' = spliceL (cellsL es) o xs) (hf : flatL (cellsL es)) (hw : ∀ x ∈ es', x.width = s) :
    ∃ w', (storeCells ⟨b, o, none⟩ vs).run P w = .ok () w' ∧ Rel w0 O I0 I ρ (upd g h (some (.row es' s))) used w' ∧ Ext w I ρ w' I ρ := by
  have hl := hrl.length
  have hsz : (cellsL es).length ≤ cs.size := by simp at hl; omega
  have hrun := run_storeCells_put (P := P) b o vs 0 w cs e fr hb (by omega) hfr (RL_one hvs hxs)
  simp only [Nat.add_zero] at hrun
  have hlt : b < w.heap.size := (Array.getElem?_eq_some_iff.1 hb).1
  have hlen : (cellsL es').length = (cellsL es).length := by
    rw [hes, spliceL_length]
    rw [← hvs.length]; exact hle
  obtain ⟨r1, r2⟩ := hR.write h _ (.row es' s) b s hg hr (.cells (spliceL cs.toList o vs).toArray e fr) (csize_put_cells hb o vs (by omega)) (fun hx =>
    ⟨rfl, hw, by rw [hes]; exact flatL_splice hf hxs o, _, e, fr, put_get hlt, by simpa [spliceL_length _ _ _ (show o + vs.length ≤ cs.toList.length by simp; omega)] using hfr, by
      simp only [hlen]
      rw [spliceL_take _ _ _ _ hle, hes]
      exact hx.rl0 (hrl.splice hvs o)⟩)
  exact ⟨_, hrun, r1, r2⟩

theorem snd_store {t : TypeId} {n : Nat} {av v : Value} {p x : V} {us : List (Nat × Option Obj)} (hR : Rel w0 O I0 I ρ g used w) (hn : sizT P t = some n) (ha : R w I ρ av p) (hv : R w I ρ v x)
    (hx : storeV g n x p = some us) : ∃ w' I', (Instr.storeAt t av v).run P w = .ok () w' ∧ Rel w0 O I0 I' ρ (applyU us g) used w' ∧ Ext w I ρ w' I' ρ := by
  unfold storeV at hx
  split at hx
  · rename_i h i f
    obtain ⟨b, s', rfl, hr⟩ := inv_hp ha
    have hrun : ∀ {w'}, v.cells.size = n → (storeCells ⟨b, i * s' + f, none⟩ v.cells.toList).run P w = .ok () w' → (Instr.storeAt t (.pointer (some ⟨b, i * s' + f, none⟩)) v).run P w = .ok () w' := by
      intro w' h1 h2
      simp only [Instr.storeAt, Instr.sureAddr, storeVar, Sem.run_bind, Sem.run_pure, Result.andThen_ok, run_sizeOf hn]
      rw [if_neg (by simp [h1])]
      exact h2
    split at hx
    · rename_i es s hg
      obtain ⟨b', s1, q1, q2, q3, rfl, q5, q0, cs, e, fr, q6, q7, q8⟩ := hR.obj h _ hg
      rw [hr] at q1; cases q1
      have hlen := cellsL_length q5
      split at hx
      · rename_i hh
        obtain ⟨rfl, rfl, hw⟩ := hh
        split at hx
        · rename_i y ks hd
          split at hx
          · rename_i hh
            obtain ⟨hi, hk⟩ := hh
            have hk : h ∉ ks := by simpa using hk
            cases hx
            obtain ⟨r1, r2, r3, r4, r5⟩ := deep_live hR hd hv
            obtain ⟨c1, c2⟩ := R_cells r3 r5
            have hyw : y.width = n := r4.trans hw
            have hvs : v.cells.toList.length = n := by rw [c1.length, cells_length, hyw]
            have hle : i * n + n ≤ es.length * n := by
              have := Nat.mul_le_mul_right n (show i + 1 ≤ es.length from hi)
              rwa [Nat.succ_mul] at this
            have hg1 : applyU (kills ks) g h = some (.row es n) := by rw [applyU_kills, if_neg hk]; exact hg
            obtain ⟨w', e1, e2, e3⟩ := write_row (P := P) r1 (o := i * n) (vs := v.cells.toList) (es' := es.set i y) hg1 hr q6 q7 (r2.rl0 q8) (by rw [hvs]; omega) _ c1 c2 (cellsL_set q5 hi hyw) q0 (mem_width_set q5 i hyw)
            refine ⟨w', _, hrun (by simpa using hvs) e1, ?_, r2.trans e3⟩
            rw [applyU_set _ _ _ hk]
            exact e2
          · cases hx
        · cases hx
      · split at hx
        · rename_i hh
          obtain ⟨rfl, rfl, hnl, hw, hs0⟩ := hh
          split at hx
          · rename_i cs' ks hd
            split at hx
            · rename_i hk
              have hk : h ∉ ks := by simpa using hk
              cases hx
              obtain ⟨r1, r2, r3, r4, r5⟩ := deep_live hR hd hv
              obtain ⟨c1, c2⟩ := R_cells r3 r5
              simp only [V.cells] at c1 c2
              have hyw : cs'.length = n := r4.trans hw
              have hvs : v.cells.toList.length = n := by rw [c1.length, hyw]
              obtain ⟨p1, p2, p3⟩ := rowOf_spec hs0 c2
              have hdiv : cs'.length / s' * s' = cs'.length := by rw [hyw, hnl, Nat.mul_div_cancel _ hs0]
              rw [hdiv, List.take_length] at p2
              have hg1 : applyU (kills ks) g h = some (.row es s') := by rw [applyU_kills, if_neg hk]; exact hg
              obtain ⟨w', e1, e2, e3⟩ := write_row (P := P) r1 (o := 0) (vs := v.cells.toList) (es' := rowOf s' cs') hg1 hr q6 q7 (r2.rl0 q8) (by rw [hvs]; omega) _ c1 c2
                (by rw [p2]; simp [spliceL, hlen, hyw, hnl]) q0 p1
              refine ⟨w', _, hrun (by simpa using hvs) (by rw [show 0 * s' + 0 = 0 by omega]; exact e1), ?_, r2.trans e3⟩
              rw [applyU_set _ _ _ hk]
              exact e2
            · cases hx
          · cases hx
        · split at hx
          · rename_i hh
            obtain ⟨hw, rfl, hf⟩ := hh
            split at hx
            · rename_i cs' he
              split at hx
              · rename_i y ks hd
                split at hx
                · rename_i hk
                  obtain ⟨hone, hk⟩ := hk
                  have hk : h ∉ ks := by simpa using hk
                  cases hx
                  obtain ⟨r1, r2, r3, r4, r5⟩ := deep_live hR hd hv
                  obtain ⟨c1, c2⟩ := R_cells r3 r5
                  have hyw : y.width = 1 := r4.trans hw
                  have hvs : v.cells.toList.length = 1 := by rw [c1.length, cells_length, hyw]
                  have hi : i < es.length := (List.getElem?_eq_some_iff.1 he).1
                  have hle : i * s' + s' ≤ es.length * s' := by
                    have := Nat.mul_le_mul_right s' (show i + 1 ≤ es.length from hi)
                    rwa [Nat.succ_mul] at this
                  have hg1 : applyU (kills ks) g h = some (.row es s') := by rw [applyU_kills, if_neg hk]; exact hg
                  have hcw : cs'.length = s' := by have := q5 _ (List.getElem_mem hi); rw [(List.getElem?_eq_some_iff.1 he).2] at this; exact this
                  have hcy : y.cells = [y] := by cases y <;> simp_all [V.one, V.cells]
                  rw [hcy] at c1 c2
                  obtain ⟨w', e1, e2, e3⟩ := write_row (P := P) r1 (o := i * s' + f) (vs := v.cells.toList) (es' := es.set i (.agg (cs'.set f y))) hg1 hr q6 q7 (r2.rl0 q8) (by rw [hvs]; omega) _ c1 c2
                    (by rw [cellsL_set_sub q5 he hf, spliceL_one _ _ _ (by omega)]) q0 (mem_width_set q5 i (by simp [V.width, hcw]))
                  refine ⟨w', _, hrun (by simpa using hvs) e1, ?_, r2.trans e3⟩
                  rw [applyU_set _ _ _ hk]
                  exact e2
                · cases hx
              · cases hx
            · cases hx
          · cases hx
    · rename_i cs hg
      split at hx
      · rename_i hh
        obtain ⟨rfl, hs, hw, hl⟩ := hh
        cases hx
        obtain ⟨b', s1, q1, q2, q3, q0, cs', e, fr, q6, q7, q8⟩ := hR.obj h _ hg
        rw [hr] at q1; cases q1
        obtain ⟨c1, c2⟩ := R_cells hv hs
        have hvs : v.cells.toList.length = n := by rw [c1.length, cells_length, hw]
        have hl8 := q8.length
        have hle : f + v.cells.toList.length ≤ cs'.size := by simp at hl8; omega
        have hst := run_storeCells_put (P := P) b f v.cells.toList 0 w cs' e fr q6 (by omega) q7 (RL_one c1 c2)
        simp only [Nat.add_zero] at hst
        have hlt : b < w.heap.size := (Array.getElem?_eq_some_iff.1 q6).1
        obtain ⟨r1, r2⟩ := hR.write h _ (.box (spliceL cs f x.cells)) b s' hg hr (.cells (spliceL cs'.toList f v.cells.toList).toArray e fr) (csize_put_cells q6 f _ hle) (fun hx =>
          ⟨flatL_splice q0 c2 f, _, e, fr, put_get hlt, by simpa [spliceL_length _ _ _ (show f + v.cells.toList.length ≤ cs'.toList.length by simpa using hle)] using q7, by
            simpa using hx.rl (q8.splice c1 f)⟩)
        exact ⟨_, _, hrun (by simpa using hvs) (by rw [show 0 * s' + f = f by omega]; exact hst), r1, r2⟩
      · cases hx
    · cases hx
  · cases hx
end
end Go.Dm
set_option linter.unusedSimpArgs false
set_option linter.unusedVariables false
namespace Go.Dm

section
variable {P : Program} {w0 w : World} {O I0 I : Nat → Prop} {ρ : Rho} {g : Nat → Option Obj} {used : Nat → Prop} {nm : Nat}

/-- What an append does, told by what it appends. -/
structure AppSrc (P : Program) (w : World) (t u ty e : TypeId) (y : Value) (m size bytes : Nat) (z : Value) (news : List Value) : Prop where
  room : ∀ (base : Option Addr) (sLen sCap : Nat) (w' : World), sLen + m ≤ sCap → (∀ a, base = some a → (storeCells (a.add (sLen * size)) news).run P w = .ok () w') → (base = none → w' = w) →
    (Builtin.append_ #[t, u] ty #[.slice base sLen sCap, y]).run P w = .ok (.slice base (sLen + m) sCap) w'
  grow : ∀ (base : Option Addr) (sLen sCap : Nat) (olds : List Value), sCap < sLen + m → (Builtin.firstCells size sLen (.slice base sLen sCap)).run P w.drew = .ok olds.toArray w.drew → (sLen + m) * bytes ≤ roomBytes →
    sLen + m ≤ 9223372036854775807 →
    (Builtin.append_ #[t, u] ty #[.slice base sLen sCap, y]).run P w = .ok (.slice (some ⟨w.heap.size, 0, none⟩) (sLen + m) (grownCap w (sLen + m) sCap e))
      (w.drew.alloc (.cells (olds ++ news ++ (Builtin.zeroCells z.cells (grownCap w (sLen + m) sCap e - (sLen + m))).toList).toArray e))

theorem firstCells_slice {size m : Nat} {a : Option Addr} {cap len : Nat} {news : List Value} (hl : news.length = m * size) (hm : m = 0 ∨ ∃ b o, a = some ⟨b, o, none⟩ ∧ At w b o news) :
    (Builtin.firstCells size m (.slice a len cap)).run P w = .ok news.toArray w := by
  rcases hm with rfl | ⟨b, o, rfl, hat⟩
  · have : news = [] := List.eq_nil_of_length_eq_zero (by simpa using hl)
    subst this
    cases a <;> simp [Builtin.firstCells, loadCells, loadCellsFrom]
  · exact run_firstCells_some w size m ⟨b, o, none⟩ len cap news hl (fun j v hv => by rw [Addr.add_lit]; exact hat j v hv)

theorem appSrc_slice {t u ty e e' : TypeId} {i : TypeInfo} {z : Value} {m cap : Nat} {a : Option Addr} {news : List Value} (ht : P.underlying t = some (.slice e)) (hu : P.underlying u = some (.slice e')) (hi : P.info? e = some i) (hz : i.zero = some z)
    (hl : news.length = m * i.size) (hm : m = 0 ∨ ∃ b o, a = some ⟨b, o, none⟩ ∧ At w b o news) : AppSrc P w t u ty e (.slice a m cap) m i.size i.bytes z news := by
  have hf := firstCells_slice (P := P) (w := w) (len := m) (cap := cap) hl hm
  have hf' : (Builtin.firstCells i.size m (.slice a m cap)).run P w.drew = .ok news.toArray w.drew := firstCells_slice (P := P) (w := w.drew) hl (by
    rcases hm with h | ⟨b, o, h1, h2⟩
    · exact .inl h
    · exact .inr ⟨b, o, h1, fun j v hv => by simpa using h2 j v hv⟩)
  constructor
  · intro base sLen sCap w' hroom h1 h2
    cases base with
    | none =>
      cases h2 rfl
      simp [Builtin.append_, run_underlying ht, run_underlying hu, sizeOf, typeInfo, hi, Builtin.lenOf, hroom, hf]
    | some b =>
      simp [Builtin.append_, run_underlying ht, run_underlying hu, sizeOf, typeInfo, hi, Builtin.lenOf, hroom, hf, h1 b rfl]
  · intro base sLen sCap olds hg hold hb h63
    have hn : ¬ (sLen + m ≤ sCap) := by omega
    have h63' : ¬ (9223372036854775807 < ((sLen : Int) + (m : Int))) := by omega
    have h48' : ¬ (281474976710656 < Builtin.nextslicecap (sLen + m) sCap * i.bytes) := by
      have := growslice_fits (bytes := i.bytes) hg hb
      omega
    simp [Builtin.append_, run_underlying ht, run_underlying hu, sizeOf, typeInfo, zeroValue, hi, hz, Builtin.lenOf, hn, h63', h48', Question.forced, hf', hold, newRow, grownCap]
    congr 2
    apply Array.ext'
    simp [List.append_assoc]

theorem appSrc_string {t u ty e : TypeId} {i : TypeInfo} {z : Value} {l : List UInt8} (ht : P.underlying t = some (.slice e)) (hu : P.underlying u = some .string) (hi : P.info? e = some i) (hz : i.zero = some z) (hs : i.size = 1) :
    AppSrc P w t u ty e (.string ⟨l.toArray⟩) l.length i.size i.bytes z (l.map fun (b : UInt8) => Value.int .u8 (b.toNat : Int)) := by
  have hsz : (ByteArray.mk l.toArray).size = l.length := by simp [ByteArray.size]
  have hf : ∀ W : World, (Builtin.firstCells i.size l.length (.string ⟨l.toArray⟩)).run P W = .ok (l.map fun (b : UInt8) => Value.int .u8 (b.toNat : Int)).toArray W := by
    intro W
    have := Lib.run_firstCells_string (P := P) W i.size ⟨l.toArray⟩
    rw [hsz] at this
    rw [this]
    congr 1
  constructor
  · intro base sLen sCap w' hroom h1 h2
    cases base with
    | none =>
      cases h2 rfl
      simp [Builtin.append_, run_underlying ht, run_underlying hu, sizeOf, typeInfo, hi, Builtin.lenOf, hsz, hroom, hf]
    | some b =>
      have := h1 b rfl
      simp [Builtin.append_, run_underlying ht, run_underlying hu, sizeOf, typeInfo, hi, Builtin.lenOf, hsz, hroom, hf, this]
  · intro base sLen sCap olds hg hold hb h63
    have hn : ¬ (sLen + l.length ≤ sCap) := by omega
    have h63' : ¬ (9223372036854775807 < ((sLen : Int) + (l.length : Int))) := by omega
    have h48' : ¬ (281474976710656 < Builtin.nextslicecap (sLen + l.length) sCap * i.bytes) := by
      have := growslice_fits (bytes := i.bytes) hg hb
      omega
    simp [Builtin.append_, run_underlying ht, run_underlying hu, sizeOf, typeInfo, zeroValue, hi, hz, Builtin.lenOf, hsz, hn, h63', h48', Question.forced, hf, hold, newRow, grownCap]
    congr 2
    apply Array.ext'
    simp [List.append_assoc]

theorem zeroCells_eq (zs : Array Value) (c : Nat) (h0 : 0 < zs.size) : (Builtin.zeroCells zs c).toList = (List.replicate c zs.toList).flatten := by
  have := madeCells_eq zs c zs.size rfl h0
  have h2 : (madeCells zs (c * zs.size)).toList = (List.replicate c zs.toList).flatten := by rw [this]
  rw [← h2]
  simp [Builtin.zeroCells, madeCells]

theorem appSrc_zeros {t u ty e : TypeId} {i : TypeInfo} {z : Value} {k kq : IntKind} {m : Nat} (ht : P.underlying t = some (.slice e)) (hu : P.underlying u = some (.int k)) (hi : P.info? e = some i) (hz : i.zero = some z)
    (hzs : z.cells.size = i.size) (hs : 0 < i.size) (hm : m * i.bytes ≤ roomBytes) (h63 : m ≤ 9223372036854775807) :
    AppSrc P w t u ty e (.int kq (m : Int)) m i.size i.bytes z (List.replicate m z.cells.toList).flatten := by
  have hw : IntKind.i64.wrap (m : Int) = m := by rw [IntKind.wrap_i64]; omega
  have hneg : ¬ ((m : Int) < 0) := by omega
  have h48i : ¬ (281474976710656 < (m : Int) * (i.bytes : Int)) := by
    rw [← Int.natCast_mul]
    unfold roomBytes at hm
    generalize m * i.bytes = q at hm ⊢
    omega
  have hzc := zeroCells_eq z.cells m (by omega)
  have hzc' : Builtin.zeroCells z.cells m = ((List.replicate m z.cells.toList).flatten).toArray := by rw [← hzc]
  constructor
  · intro base sLen sCap w' hroom h1 h2
    cases base with
    | none =>
      cases h2 rfl
      simp [Builtin.append_, run_underlying ht, run_underlying hu, sizeOf, typeInfo, zeroValue, hi, hz, asInt, asIntOf, hw, hneg, h48i, hroom]
    | some b =>
      have h3 := h1 b rfl
      simp [Builtin.append_, run_underlying ht, run_underlying hu, sizeOf, typeInfo, zeroValue, hi, hz, asInt, asIntOf, hw, hneg, h48i, hroom]
      by_cases h0 : m * i.size = 0
      · have hm0 : m = 0 := by
          rcases Nat.eq_zero_or_pos m with h | h
          · exact h
          · have := Nat.mul_pos h hs; omega
        subst hm0
        simp at h3
        simp [h3]
      · simp [h0, hzc', h3]
  · intro base sLen sCap olds hg hold hb h63'
    have hn : ¬ (sLen + m ≤ sCap) := by omega
    have h63'' : ¬ (9223372036854775807 < ((sLen : Int) + (m : Int))) := by omega
    have h48' : ¬ (281474976710656 < Builtin.nextslicecap (sLen + m) sCap * i.bytes) := by
      have := growslice_fits (bytes := i.bytes) hg hb
      omega
    by_cases h0 : m * i.size = 0
    · have hm0 : m = 0 := by
        rcases Nat.eq_zero_or_pos m with h | h
        · exact h
        · have := Nat.mul_pos h hs; omega
      subst hm0
      have a1 : ¬ sLen ≤ sCap := by omega
      have a2 : ¬ (9223372036854775807 < (sLen : Int)) := by omega
      have a3 : ¬ (281474976710656 < Builtin.nextslicecap sLen sCap * i.bytes) := h48'
      have hw0 : IntKind.i64.wrap 0 = 0 := by decide
      simp [Builtin.append_, run_underlying ht, run_underlying hu, sizeOf, typeInfo, zeroValue, hi, hz, asInt, asIntOf, hw0, a1, a2, a3, Question.forced, hold, newRow, grownCap]
      congr 2
      apply Array.ext'
      simp
    · simp [Builtin.append_, run_underlying ht, run_underlying hu, sizeOf, typeInfo, zeroValue, hi, hz, asInt, asIntOf, hw, hneg, h0, hn, h63'', h48', h48i, Question.forced, hold, newRow, grownCap, hzc']
      congr 2
      apply Array.ext'
      simp [List.append_assoc]
end
end Go.Dm
set_option linter.unusedSimpArgs false
set_option linter.unusedVariables false
namespace Go.Dm

section
variable {P : Program} {w0 w : World} {O I0 I : Nat → Prop} {ρ : Rho} {g : Nat → Option Obj} {used : Nat → Prop} {nm : Nat}

/-- An object under another name. -/
theorem Rel.move (hR : Rel w0 O I0 I ρ g used w) (hn : ¬ used nm) {h b s : Nat} {o o' : Obj} (hg : g h = some o) (hr : ρ h = some (b, s)) (ho : ObjR w I (upd ρ nm (some (b, s))) b s o') :
    Rel w0 O I0 I (upd ρ nm (some (b, s))) (upd (upd g h none) nm (some o')) (fun k => used k ∨ k = nm) w ∧ Ext w I ρ w I (upd ρ nm (some (b, s))) := by
  have hx : Ext w I ρ w I (upd ρ nm (some (b, s))) := ⟨fun _ _ => rfl, fun _ => Nat.le_refl _, fun _ h => h, fun k p hp => by
    by_cases e : k = nm
    · subst e; exact absurd (hR.dom _ _ hp) hn
    · rw [upd_ne _ _ e]; exact hp⟩
  obtain ⟨b', s', q1, q2, q3, q4⟩ := hR.obj h o hg
  rw [hr] at q1; cases q1
  have hlive : ∀ k o1, k ≠ nm → upd (upd g h none) nm (some o') k = some o1 → k ≠ h ∧ g k = some o1 := by
    intro k o1 hk ho1
    rw [upd_ne _ _ hk] at ho1
    by_cases e : k = h
    · subst e; rw [upd_same] at ho1; cases ho1
    · rw [upd_ne _ _ e] at ho1; exact ⟨e, ho1⟩
  refine ⟨⟨hR.os, hR.tape, hR.output, hR.size, hR.frame, hR.csz, hR.ilt, hR.isub, ?_, ?_, ?_⟩, hx⟩
  · intro k p hp
    by_cases e : k = nm
    · exact .inr e
    · rw [upd_ne _ _ e] at hp; exact .inl (hR.dom _ _ hp)
  · intro k o1 ho1
    by_cases e : k = nm
    · subst e
      rw [upd_same] at ho1; cases ho1
      exact ⟨b, s, upd_same _ _ _, q2, q3, ho⟩
    · obtain ⟨_, hk⟩ := hlive k o1 e ho1
      obtain ⟨b1, s1, p1, p2, p3, p4⟩ := hR.obj k o1 hk
      exact ⟨b1, s1, by rw [upd_ne _ _ e]; exact p1, p2, p3, p4.ext hx rfl⟩
  · intro k k' o1 o2 b1 s1 b2 s2 g1 g2 r1 r2 hne
    by_cases e : k = nm
    · subst e
      rw [upd_same] at r1; cases r1
      have e' : k' ≠ k := Ne.symm hne
      obtain ⟨hkh, hk⟩ := hlive k' o2 e' g2
      rw [upd_ne _ _ e'] at r2
      exact hR.inj h k' o o2 b s b2 s2 hg hk hr r2 (Ne.symm hkh)
    · obtain ⟨hkh, hk⟩ := hlive k o1 e g1
      rw [upd_ne _ _ e] at r1
      by_cases e' : k' = nm
      · subst e'
        rw [upd_same] at r2; cases r2
        exact hR.inj k h o1 o b1 s1 b s hk hg r1 hr hkh
      · obtain ⟨_, hk'⟩ := hlive k' o2 e' g2
        rw [upd_ne _ _ e'] at r2
        exact hR.inj k k' o1 o2 b1 s1 b2 s2 hk hk' r1 r2 hne

theorem snd_app {t u ty e : TypeId} {s bytes : Nat} {i : TypeInfo} {z : Value} {v y : Value} {x : V} {ys : List V} {news : List Value} {eff : Eff}
    (hR : Rel w0 O I0 I ρ g used w) (hn : ¬ used nm) (hi : i.size = s) (hby : i.bytes = bytes) (hzs : z.cells.size = s) (h0 : 0 < s) (hv : R w I ρ v x)
    (hsrc : AppSrc P w t u ty e y ys.length s bytes z news) (hnews : RL w I rho0 news (cellsL ys)) (hw : ∀ e ∈ ys, e.width = s) (hf : flatL (cellsL ys)) (hbpos : 0 < bytes ∨ ys.length ≤ 140737488355328)
    (hx : appV g s bytes nm x ys = some eff) (hcapl : ∀ h off len, x = .hs h off len → (len + ys.length) ≤ 9223372036854775807) :
    Leaves w0 O I0 (applyE g nm eff) (fun h => used h ∨ h = nm) w I ρ ((Builtin.append_ #[t, u] ty #[v, y]).run P w) eff.v := by
  have hnl : news.length = ys.length * s := by rw [hnews.length, cellsL_length hw]
  have hzc : ∀ c, (Builtin.zeroCells z.cells c).toList.length = c * s := fun c => by simp [Builtin.zeroCells, hzs]
  have hdrew : Ext w I ρ w.drew I ρ := Ext.drew w I ρ
  -- a new row
  have newR : ∀ (base : Option Addr) (sLen sCap : Nat) (olds : List Value) (es' : List V), sCap < sLen + ys.length → (∀ e ∈ es', e.width = s) → flatL (cellsL es') → es'.length = sLen → RL w I rho0 olds (cellsL es') →
      (Builtin.firstCells s sLen (.slice base sLen sCap)).run P w.drew = .ok olds.toArray w.drew → (sLen + ys.length) * bytes ≤ roomBytes → sLen + ys.length ≤ 9223372036854775807 →
      ∀ h0 : Option Nat, Leaves w0 O I0 (upd (match h0 with | some h => upd g h none | none => g) nm (some (.row (es' ++ ys) s))) (fun h => used h ∨ h = nm) w I ρ
        ((Builtin.append_ #[t, u] ty #[.slice base sLen sCap, y]).run P w) (.hs nm 0 (sLen + ys.length)) := by
    intro base sLen sCap olds es' hlt hw' hf' hl' hold hfc hb h63 h0'
    have hrun := hsrc.grow base sLen sCap olds hlt hfc hb h63
    have hge := grownCap_ge w (sLen + ys.length) sCap e
    generalize grownCap w (sLen + ys.length) sCap e = cap at hrun hge
    have hR' : Rel w0 O I0 I ρ (match h0' with | some h => upd g h none | none => g) used w := by
      cases h0' with
      | none => exact hR
      | some h => exact hR.drop h
    have hww : ∀ e ∈ es' ++ ys, e.width = s := fun e he => (List.mem_append.1 he).elim (hw' e) (hw e)
    obtain ⟨r1, r2⟩ := new_row hR'.drew hn (vs := olds ++ news) (es := es' ++ ys) (s := s) e (Builtin.zeroCells z.cells (cap - (sLen + ys.length))).toList (0, 0) hww
      (by rw [cellsL_append]; exact fun y hy => (List.mem_append.1 hy).elim (hf' y) (hf y))
      (by rw [cellsL_append]; exact (hdrew.rl0 hold).append (hdrew.rl0 hnews)) (unfrozen0 _)
    refine ⟨_, _, _, _, hrun, R_row (upd_same _ _ _) hge ?_, r1, hdrew.trans r2⟩
    have hc := csize_new w.drew ((olds ++ news ++ (Builtin.zeroCells z.cells (cap - (sLen + ys.length))).toList).toArray) e (0, 0)
    simp only [World.size_drew] at hc
    rw [hc]
    have hol : olds.length = sLen * s := by rw [hold.length, cellsL_length hw', hl']
    simp only [List.size_toArray, List.length_append, hol, hnl, hzc, ← Nat.add_mul]
    exact Nat.mul_le_mul_right _ (by omega)
  unfold appV at hx
  split at hx
  · obtain ⟨a, rfl⟩ := inv_nils hv
    split at hx
    · rename_i hys
      subst hys
      cases hx
      have hrun := hsrc.room a 0 0 w (by simp) (fun b _ => by
        have : news = [] := List.eq_nil_of_length_eq_zero (by simpa using hnl)
        subst this; rfl) (fun _ => rfl)
      exact ⟨_, w, I, ρ, hrun, RL.nils _ RL.nil, hR.more _, Ext.refl _ _ _⟩
    · rename_i hys
      split at hx
      · rename_i hb
        cases hx
        have hpos : 0 < ys.length := List.length_pos_iff.2 hys
        have hlim : ys.length ≤ 140737488355328 := by
          rcases hbpos with h | h
          · exact Nat.le_trans (Nat.le_mul_of_pos_right _ h) hb
          · exact h
        have := newR a 0 0 [] [] (by omega) (by simp) (by simp [flatL, cellsL]) rfl RL.nil (by
          cases a <;> simp [Builtin.firstCells, loadCells, loadCellsFrom]) (by simpa using hb) (by omega) none
        simpa [applyE, applyU] using this
      · cases hx
  · rename_i h off len
    split at hx
    · rename_i es s' hg
      split at hx
      · rename_i hh
        obtain ⟨hs', rfl, hle, hb⟩ := hh
        subst hs'
        cases hx
        obtain ⟨b, s1, q1, q2, q3, rfl, q5, q0, cs, ec, fr, q6, q7, q8⟩ := hR.obj h _ hg
        have hlen := cellsL_length q5
        have h63 := hcapl h 0 len rfl
        have hE : applyE g nm ⟨.hs nm 0 (len + ys.length), some (.row (es.take len ++ ys) s'), [(h, none)]⟩ = upd (upd g h none) nm (some (.row (es.take len ++ ys) s')) := rfl
        rw [hE]
        have htl : (es.take len).length = len := by simp; omega
        have hfT : flatL (cellsL (es.take len)) := by rw [cellsL_take len q5]; exact fun y hy => q0 y (List.mem_of_mem_take hy)
        have hat := (at_take q6 (cellsL es).length).take (len * s')
        have hrlT : RL w I rho0 ((cs.toList.take (cellsL es).length).take (len * s')) (cellsL (es.take len)) := by rw [cellsL_take len q5]; exact q8.take _
        have hgrow : ∀ (base : Option Addr) (cap : Nat), cap < len + ys.length → (len = 0 ∨ base = some ⟨b, 0, none⟩) →
            Leaves w0 O I0 (upd (upd g h none) nm (some (.row (es.take len ++ ys) s'))) (fun h => used h ∨ h = nm) w I ρ ((Builtin.append_ #[t, u] ty #[.slice base len cap, y]).run P w) (.hs nm 0 (len + ys.length)) := by
          intro base cap hlt hbase
          refine newR base len cap _ (es.take len) hlt (mem_width_take q5 len) hfT htl hrlT ?_ hb h63 (some h)
          refine firstCells_slice (P := P) (w := w.drew) (by rw [hrlT.length, cellsL_length (mem_width_take q5 len), htl]) ?_
          rcases hbase with h1 | h1
          · exact .inl h1
          · exact .inr ⟨b, 0, h1, fun j v hv => by simpa using hat j v hv⟩
        rcases inv_hs hv with ⟨rfl, a, b2, s2, rfl, hr⟩ | ⟨b2, s2, cap, rfl, hr, c1, c2⟩
        · rw [q1] at hr; cases hr
          by_cases hys : ys = []
          · subst hys
            have hrun := hsrc.room a 0 0 w (by simp) (fun b _ => by
              have : news = [] := List.eq_nil_of_length_eq_zero (by simpa using hnl)
              subst this; rfl) (fun _ => rfl)
            obtain ⟨r1, r2⟩ := hR.move hn (o' := .row (es.take 0 ++ []) s') hg q1 ⟨rfl, by simp, by simp [flatL, cellsL], cs, ec, fr, q6, q7, by simp [cellsL]; exact RL.nil⟩
            exact ⟨_, w, I, _, hrun, RL.hs0 _ _ _ b s' (upd_same _ _ _) RL.nil, r1, r2⟩
          · have hpos : 0 < ys.length := List.length_pos_iff.2 hys
            exact hgrow a 0 (by omega) (.inl rfl)
        · rw [q1] at hr; cases hr
          simp only [Nat.zero_mul, Nat.zero_add] at c2 ⊢
          by_cases hroom : len + ys.length ≤ cap
          · have hcs : csize w b = cs.size := by unfold csize; rw [q6]
            have hm1 : (len + ys.length) * s' ≤ cap * s' := Nat.mul_le_mul_right _ hroom
            rw [Nat.add_mul] at hm1
            have hfit : len * s' + news.length ≤ cs.size := by omega
            have hst := run_storeCells_put (P := P) b (len * s') news 0 w cs ec fr q6 (by omega) q7 (RL_one hnews hf)
            simp only [Nat.add_zero] at hst
            have hrun := hsrc.room (some ⟨b, 0, none⟩) len cap _ hroom (fun a ha => by cases ha; rw [Addr.add_lit, Nat.zero_add]; exact hst) (by simp)
            have hlt : b < w.heap.size := (Array.getElem?_eq_some_iff.1 q6).1
            have hww : ∀ e ∈ es.take len ++ ys, e.width = s' := fun e he => (List.mem_append.1 he).elim (mem_width_take q5 len e) (hw e)
            have hff : flatL (cellsL (es.take len ++ ys)) := by rw [cellsL_append]; exact fun y hy => (List.mem_append.1 hy).elim (hfT y) (hf y)
            have hcl : (cellsL (es.take len ++ ys)).length = len * s' + news.length := by rw [cellsL_append, List.length_append, cellsL_length (mem_width_take q5 len), htl, hnews.length]
            have hlcs : len * s' ≤ (cellsL es).length := by rw [hlen]; exact Nat.mul_le_mul_right _ hle
            have hq8l := q8.length
            have hmono : ∀ (W : World) (ρ' : Rho), Ext w I ρ W I ρ' → RL W I rho0 ((spliceL cs.toList (len * s') news).take (cellsL (es.take len ++ ys)).length) (cellsL (es.take len ++ ys)) := by
              intro W ρ' hx
              rw [hcl, spliceL_take _ _ _ _ (Nat.le_refl _), cellsL_append]
              have e1 : spliceL (cs.toList.take (len * s' + news.length)) (len * s') news = cs.toList.take (len * s') ++ news := by
                unfold spliceL
                rw [List.take_take, List.drop_take]
                simp only [Nat.sub_self, List.take_zero, List.append_nil]
                rw [Nat.min_eq_left (by omega)]
              have e2 : cs.toList.take (len * s') = (cs.toList.take (cellsL es).length).take (len * s') := by rw [List.take_take, Nat.min_eq_left hlcs]
              rw [e1, e2]
              exact (hx.rl0 hrlT).append (hx.rl0 hnews)
            have hunf : unfrozen (spliceL cs.toList (len * s') news).toArray.size fr := by
              simpa [spliceL_length _ _ _ (show len * s' + news.length ≤ cs.toList.length by simpa using hfit)] using q7
            obtain ⟨r1, r2⟩ := hR.write h _ (.row (es.take len ++ ys) s') b s' hg q1 (.cells (spliceL cs.toList (len * s') news).toArray ec fr) (csize_put_cells q6 _ _ hfit) (fun hx =>
              ⟨rfl, hww, hff, _, ec, fr, put_get hlt, hunf, hmono _ _ hx⟩)
            obtain ⟨m1, m2⟩ := r1.move hn (o' := .row (es.take len ++ ys) s') (upd_same _ _ _) q1 ⟨rfl, hww, hff, _, ec, fr, put_get hlt, hunf, hmono _ ρ r2⟩
            have hgg : upd (upd (upd g h (some (.row (es.take len ++ ys) s'))) h none) nm (some (.row (es.take len ++ ys) s')) = upd (upd g h none) nm (some (.row (es.take len ++ ys) s')) := by
              funext k
              simp only [upd]
              split <;> (try rfl)
              split <;> rfl
            rw [hgg] at m1
            refine ⟨_, _, _, _, hrun, R_row (upd_same _ _ _) hroom ?_, m1, r2.trans m2⟩
            exact Nat.le_trans c2 (r2.csz b)
          · exact hgrow _ cap (by omega) (.inr rfl)
      · cases hx
    · cases hx
  · cases hx
end
end Go.Dm
set_option linter.unusedSimpArgs false
set_option linter.unusedVariables false
namespace Go.Dm

section
variable {P : Program} {w0 w : World} {O I0 I : Nat → Prop} {ρ : Rho} {g : Nat → Option Obj} {used : Nat → Prop} {nm : Nat}

theorem cellsL_splice {s : Nat} : ∀ {es ys : List V} {o : Nat}, (∀ e ∈ es, e.width = s) → (∀ e ∈ ys, e.width = s) → o + ys.length ≤ es.length → cellsL (spliceL es o ys) = spliceL (cellsL es) (o * s) (cellsL ys) := by
  intro es ys o h h' hle
  unfold spliceL
  rw [cellsL_append, cellsL_append, cellsL_take o h, cellsL_drop _ h, cellsL_length h', Nat.add_mul]

theorem snd_cpy {t u ty e e' : TypeId} {s : Nat} {v y : Value} {x : V} {p : V} {ys : List V} {eff : Eff} (hR : Rel w0 O I0 I ρ g used w) (hu : P.underlying t = some (.slice e)) (hs : sizT P e = some s) (hs0 : 0 < s)
    (hv : R w I ρ v x) (hy : R w I ρ y p) (hys : viewL g s p = some ys) (hx : cpyV g s x ys = some eff) :
    ∃ cv w' , (Builtin.copy_ #[t, u] ty #[v, y]).run P w = .ok cv w' ∧ R w' I ρ cv eff.v ∧ Rel w0 O I0 I ρ (applyE g nm eff) used w' ∧ Ext w I ρ w' I ρ ∧ eff.new = none := by
  obtain ⟨a, cap, news, rfl, h1, h2, h3, h4⟩ := viewL_sound hys hy hR
  have hnl : news.length = ys.length * s := by rw [h3.length, cellsL_length h1]
  have hfc : ∀ n, n ≤ ys.length → (Builtin.firstCells s n (.slice a ys.length cap)).run P w = .ok (news.take (n * s)).toArray w := by
    intro n hn
    refine firstCells_slice (P := P) (by rw [List.length_take, hnl]; exact Nat.min_eq_left (Nat.mul_le_mul_right _ hn)) ?_
    rcases h4 with rfl | ⟨b, o, rfl, hat⟩
    · left; simpa using hn
    · exact .inr ⟨b, o, rfl, hat.take _⟩
  have hrun : ∀ (base : Option Addr) (dLen dCap : Nat) (w' : World), (∀ b, base = some b → (storeCells b (news.take (min ys.length dLen * s))).run P w = .ok () w') → (base = none → w' = w) →
      (Builtin.copy_ #[t, u] ty #[.slice base dLen dCap, .slice a ys.length cap]).run P w = .ok (.int .i64 ((min ys.length dLen : Nat) : Int)) w' := by
    intro base dLen dCap w' hst hno
    have hf := hfc (min ys.length dLen) (Nat.min_le_left _ _)
    have hmin : Nat.min ys.length dLen = min ys.length dLen := rfl
    cases base with
    | none =>
      cases hno rfl
      simp [Builtin.copy_, run_underlying hu, Builtin.lenOf, run_sizeOf hs, hmin, hf, goInt]
    | some b =>
      have := hst b rfl
      simp [Builtin.copy_, run_underlying hu, Builtin.lenOf, run_sizeOf hs, hmin, hf, goInt, this]
  unfold cpyV at hx
  split at hx
  · cases hx
    obtain ⟨b, rfl⟩ := inv_nils hv
    have := hrun b 0 0 w (fun b _ => by simp [storeCells, Sem.run]) (fun _ => rfl)
    simp only [Nat.min_zero] at this
    exact ⟨_, w, this, RL.int _ _ RL.nil, hR, Ext.refl _ _ _, rfl⟩
  · rename_i h off len
    split at hx
    · rename_i es s' hg
      split at hx
      · rename_i hh
        obtain ⟨hs', hle⟩ := hh
        subst hs'
        cases hx
        obtain ⟨b, s1, q1, q2, q3, rfl, q5, q0, cs, ec, fr, q6, q7, q8⟩ := hR.obj h _ hg
        have hlen := cellsL_length q5
        rcases inv_hs hv with ⟨rfl, ad, b2, s2, rfl, hr⟩ | ⟨b2, s2, cap2, rfl, hr, c1, c2⟩
        · have := hrun ad 0 0 w (fun b _ => by simp [storeCells, Sem.run]) (fun _ => rfl)
          refine ⟨_, w, this, RL.int _ _ RL.nil, ?_, Ext.refl _ _ _, rfl⟩
          have he : applyE g nm ⟨.int .i64 ((min ys.length 0 : Nat) : Int), none, [(h, some (.row (spliceL es off (ys.take 0)) s'))]⟩ = g := by
            funext k
            simp only [applyE, applyU, List.take_zero, spliceL_nil]
            by_cases e : k = h
            · subst e; rw [upd_same, hg]
            · rw [upd_ne _ _ e]
          rw [he]
          exact hR
        · rw [q1] at hr; cases hr
          have htk : (ys.take len).length = min ys.length len := by simp [Nat.min_comm]
          have hyt := mem_width_take h1 len
          have hcl : cellsL (ys.take len) = (cellsL ys).take (len * s') := cellsL_take len h1
          have hnt : news.take (min ys.length len * s') = news.take (len * s') := by
            by_cases hl : len ≤ ys.length
            · rw [Nat.min_eq_right hl]
            · rw [Nat.min_eq_left (by omega), List.take_of_length_le (by omega), List.take_of_length_le (by rw [hnl]; exact Nat.mul_le_mul_right _ (by omega))]
          have hrl : RL w I rho0 (news.take (len * s')) (cellsL (ys.take len)) := by rw [hcl]; exact h3.take _
          have hfl : flatL (cellsL (ys.take len)) := by rw [hcl]; exact fun y hy => h2 y (List.mem_of_mem_take hy)
          have hoff : off * s' + len * s' ≤ es.length * s' := by rw [← Nat.add_mul]; exact Nat.mul_le_mul_right _ hle
          have hle2 : off * s' + (news.take (len * s')).length ≤ (cellsL es).length := by
            rw [hlen, List.length_take]
            omega
          obtain ⟨w', e1, e2, e3⟩ := write_row (P := P) hR (o := off * s') (vs := news.take (len * s')) (es' := spliceL es off (ys.take len)) hg q1 q6 q7 q8 hle2 _ hrl hfl
            (cellsL_splice q5 hyt (by rw [htk]; omega)) q0 (fun x hx => by
              simp only [spliceL, List.mem_append] at hx
              rcases hx with (hx | hx) | hx
              · exact q5 x (List.mem_of_mem_take hx)
              · exact hyt x hx
              · exact q5 x (List.mem_of_mem_drop hx))
          have := hrun (some ⟨b, off * s', none⟩) len cap2 w' (fun a ha => by cases ha; rw [hnt]; exact e1) (by simp)
          exact ⟨_, w', this, RL.int _ _ RL.nil, e2, e3, rfl⟩
      · cases hx
    · cases hx
  · cases hx
end
end Go.Dm
set_option linter.unusedSimpArgs false
set_option linter.unusedVariables false
set_option linter.unusedSectionVars false
namespace Go.Dm

section
variable {P : Program} {w0 w : World} {O I0 I : Nat → Prop} {ρ : Rho} {g : Nat → Option Obj} {used : Nat → Prop} {nm : Nat}

theorem bytes_eq (a b : List UInt8) : ((⟨a.toArray⟩ : ByteArray).toList == (⟨b.toArray⟩ : ByteArray).toList) = (a == b) := by
  rw [ByteArray.toList_mk, ByteArray.toList_mk]

theorem eqAll_append {ks js : List Nat} : ∀ {a c b d : List V} {r : Bool}, a.length = ks.length → c.length = ks.length → eqAll (ks ++ js) (a ++ b) (c ++ d) = some r →
    ∃ r1 r2, eqAll ks a c = some r1 ∧ eqAll js b d = some r2 ∧ r = (r1 && r2) := by
  induction ks with
  | nil =>
    intro a c b d r ha hc h
    cases a <;> cases c <;> simp_all [eqAll]
  | cons k ks ih =>
    intro a c b d r ha hc h
    cases a with
    | nil => simp at ha
    | cons x a =>
      cases c with
      | nil => simp at hc
      | cons y c =>
        simp only [List.cons_append, eqAll] at h
        split at h
        · rename_i p q h1 h2
          cases h
          obtain ⟨r1, r2, e1, e2, rfl⟩ := ih (by simpa using ha) (by simpa using hc) h2
          exact ⟨p && r1, r2, by simp [eqAll, h1, e1], e2, by rw [Bool.and_assoc]⟩
        · cases h
theorem eqAll_length : ∀ {ks : List Nat} {a b : List V} {r : Bool}, eqAll ks a b = some r → a.length = ks.length ∧ b.length = ks.length
  | [], [], [], _, _ => ⟨rfl, rfl⟩
  | k :: ks, x :: a, y :: b, r, h => by
    simp only [eqAll] at h
    split at h
    · rename_i h1 h2
      have := eqAll_length h2
      simp [this]
    · cases h
  | [], _ :: _, _, _, h => by simp [eqAll] at h
  | [], [], _ :: _, _, h => by simp [eqAll] at h
  | _ :: _, [], _, _, h => by simp [eqAll] at h
  | _ :: _, _ :: _, [], _, h => by simp [eqAll] at h

/-- A value's shape by its type. -/
def shapeT (P : Program) (t : TypeId) (x : V) : Prop := (aggT P t = some true ∧ ∃ cs, x = .agg cs) ∨ (aggT P t = some false ∧ x.cells = [x])

theorem eqB_run {d : Nat} {t : TypeId} {kd : Nat} {v v' : Value} {x y : V} {r : Bool} (ht : kindT P t = some kd) (hv : R w I ρ v x) (hv' : R w I ρ v' y) (h : eqB kd x y = some r) :
    (Op.equalIn (d + 1) t v v').run P w = .ok r w := by
  unfold kindT at ht
  unfold eqB at h
  split at h
  · cases inv_bool hv; cases inv_bool hv'
    split at h
    · rename_i hk
      subst hk
      cases h
      split at ht <;> first | (simp at ht; done) | skip
      rename_i hu
      exact run_equalIn_bool w d t _ _ hu
    · cases h
  · cases inv_int hv; cases inv_int hv'
    split at h
    · rename_i hk
      obtain ⟨rfl, rfl⟩ := hk
      cases h
      split at ht <;> first | (simp at ht; done) | skip
      rename_i hu
      exact run_equalIn_int w d t _ _ _ _ hu
    · cases h
  · cases inv_str hv; cases inv_str hv'
    split at h
    · rename_i hk
      subst hk
      cases h
      split at ht <;> first | (simp at ht; done) | skip
      rename_i hu
      rw [run_equalIn_string w d t _ _ hu, bytes_eq]
    · cases h
  · cases h

theorem cutAs_shape {t : TypeId} {n off : Nat} {agg : Bool} {cs : List V} (ha : aggT P t = some agg) (hfl : flatL cs) (h1 : agg = false → n = 1) (hle : off + n ≤ cs.length) :
    ∃ x, cutAs agg off n cs = some x ∧ shapeT P t x ∧ x.cells = (cs.drop off).take n := by
  cases agg with
  | true => exact ⟨.agg ((cs.drop off).take n), by simp [cutAs, hle], .inl ⟨ha, _, rfl⟩, rfl⟩
  | false =>
    have hn := h1 rfl
    subst hn
    have hlt : off < cs.length := by omega
    have hx : (cs[off]).cells = [cs[off]] := by
      have := hfl cs[off] (List.getElem_mem hlt)
      cases hc : cs[off] <;> simp_all [V.one, V.cells]
    refine ⟨cs[off], by simp [cutAs, hlt], .inr ⟨ha, hx⟩, ?_⟩
    rw [hx]
    have : (cs.drop off).take 1 = [cs[off]] := by
      rw [List.drop_eq_getElem_cons hlt]; rfl
    exact this.symm

theorem flatTy_shape {n : Nat} {t : TypeId} {ks : List Nat} (h : flatTy P n t = some ks) : ∃ agg, aggT P t = some agg ∧ (agg = false → ks.length = 1) := by
  cases n with
  | zero => simp [flatTy] at h
  | succ n =>
    unfold flatTy at h
    unfold aggT
    split at h <;> simp_all
    all_goals first | (rw [← h]; rfl) | skip

theorem eqItems_run {d s : Nat} {e : TypeId} {ks : List Nat} {ag : Bool} (hs : sizT P e = some s) (hks : ks.length = s) (h0 : 0 < s) (ha : aggT P e = some ag) (h1 : ag = false → ks.length = 1)
    (IH : ∀ (v v' : Value) (x y : V) (r : Bool), R w I ρ v x → R w I ρ v' y → shapeT P e x → shapeT P e y → eqAll ks x.cells y.cells = some r → (Op.equalIn d e v v').run P w = .ok r w)
    {xs ys : Array Value} {cs ds : List V} (hx : RL w I ρ xs.toList cs) (hy : RL w I ρ ys.toList ds) (hcf : flatL cs) (hdf : flatL ds) :
    ∀ (m i : Nat) (r : Bool), eqAll (List.replicate m ks).flatten (cs.drop (i * s)) (ds.drop (i * s)) = some r → (Op.eqItems d e s xs ys (List.range' i m)).run P w = .ok r w
  | 0, i, r, h => by
    cases hc : cs.drop (i * s) <;> cases hd : ds.drop (i * s) <;> simp_all [eqAll, Op.eqItems]
  | m + 1, i, r, h => by
    have hl := eqAll_length h
    simp only [List.replicate_succ, List.flatten_cons, List.length_append, List.length_drop] at hl
    have e1 : cs.drop (i * s) = (cs.drop (i * s)).take s ++ cs.drop ((i + 1) * s) := by
      rw [Nat.succ_mul, ← List.drop_drop, List.take_append_drop]
    have e2 : ds.drop (i * s) = (ds.drop (i * s)).take s ++ ds.drop ((i + 1) * s) := by
      rw [Nat.succ_mul, ← List.drop_drop, List.take_append_drop]
    rw [e1, e2, List.replicate_succ, List.flatten_cons] at h
    obtain ⟨r1, r2, g1, g2, rfl⟩ := eqAll_append (by simp; omega) (by simp; omega) h
    obtain ⟨x, x1, x2, x3⟩ := cutAs_shape (n := s) (off := i * s) ha hcf (fun h => by rw [← hks]; exact h1 h) (by omega)
    obtain ⟨y, y1, y2, y3⟩ := cutAs_shape (n := s) (off := i * s) ha hdf (fun h => by rw [← hks]; exact h1 h) (by omega)
    obtain ⟨u, u1, u2⟩ := run_part ha hs hcf hx x1
    obtain ⟨u', v1, v2⟩ := run_part ha hs hdf hy y1
    have hq := IH u u' x y r1 u2 v2 x2 y2 (by rw [x3, y3]; exact g1)
    have ht := eqItems_run hs hks h0 ha h1 IH hx hy hcf hdf m (i + 1) r2 g2
    rw [List.range'_succ]
    simp only [Op.eqItems, Sem.run_bind, u1, v1, hq, Result.andThen_ok]
    cases r1
    · simp
    · simpa using ht

theorem eqFields_run {d : Nat} (f : TypeId → Option (List Nat))
    (IH : ∀ (e : TypeId) (ks : List Nat), f e = some ks → (∃ ag, aggT P e = some ag ∧ (ag = false → ks.length = 1)) ∧
      ∀ (v v' : Value) (x y : V) (r : Bool), R w I ρ v x → R w I ρ v' y → shapeT P e x → shapeT P e y → eqAll ks x.cells y.cells = some r → (Op.equalIn d e v v').run P w = .ok r w)
    {xs ys : Array Value} {cs ds : List V} (hx : RL w I ρ xs.toList cs) (hy : RL w I ρ ys.toList ds) (hcf : flatL cs) (hdf : flatL ds) :
    ∀ (fs : List Field) (off : Nat) (js : List Nat) (r : Bool), flatFs P f fs off = some js → eqAll js (cs.drop off) (ds.drop off) = some r → (Op.eqFields d xs ys fs).run P w = .ok r w
  | [], off, js, r, hf, h => by
    simp only [flatFs, Option.some.injEq] at hf
    subst hf
    cases hc : cs.drop off <;> cases hd : ds.drop off <;> simp_all [eqAll, Op.eqFields]
  | fd :: fs, off, js, r, hf, h => by
    simp only [flatFs] at hf
    split at hf
    · rename_i hh
      obtain ⟨hn, rfl⟩ := hh
      split at hf
      · rename_i ks hk
        split at hf
        · rename_i hs
          obtain ⟨hs, h0⟩ := hs
          obtain ⟨js', hj, rfl⟩ := Option.map_eq_some_iff.1 hf
          obtain ⟨⟨ag, ha, h1⟩, IHe⟩ := IH _ _ hk
          have hl := eqAll_length h
          simp only [List.length_append, List.length_drop] at hl
          have e1 : cs.drop fd.offset = (cs.drop fd.offset).take ks.length ++ cs.drop (fd.offset + ks.length) := by
            rw [← List.drop_drop, List.take_append_drop]
          have e2 : ds.drop fd.offset = (ds.drop fd.offset).take ks.length ++ ds.drop (fd.offset + ks.length) := by
            rw [← List.drop_drop, List.take_append_drop]
          rw [e1, e2] at h
          obtain ⟨r1, r2, g1, g2, rfl⟩ := eqAll_append (by simp; omega) (by simp; omega) h
          obtain ⟨x, x1, x2, x3⟩ := cutAs_shape (n := ks.length) (off := fd.offset) ha hcf h1 (by omega)
          obtain ⟨y, y1, y2, y3⟩ := cutAs_shape (n := ks.length) (off := fd.offset) ha hdf h1 (by omega)
          obtain ⟨u, u1, u2⟩ := run_part ha hs hcf hx x1
          obtain ⟨u', v1, v2⟩ := run_part ha hs hdf hy y1
          have hq := IHe u u' x y r1 u2 v2 x2 y2 (by rw [x3, y3]; exact g1)
          have ht := eqFields_run f IH hx hy hcf hdf fs _ _ _ hj g2
          simp only [Op.eqFields, hn, ne_eq, not_false_eq_true, if_true, Sem.run_bind, u1, v1, hq, Result.andThen_ok]
          cases r1
          · simp
          · simpa using ht
        · cases hf
      · cases hf
    · cases hf

theorem eqT_run : ∀ (n : Nat) (t : TypeId) (ks : List Nat), flatTy P n t = some ks → ∀ (d : Nat), n ≤ d → ∀ (v v' : Value) (x y : V) (r : Bool), R w I ρ v x → R w I ρ v' y → shapeT P t x → shapeT P t y →
    eqAll ks x.cells y.cells = some r → (Op.equalIn d t v v').run P w = .ok r w
  | 0, t, ks, h, _, _, _, _, _, _, _, _, _, _, _, _ => by simp [flatTy] at h
  | n + 1, t, ks, h, 0, hd, _, _, _, _, _, _, _, _, _, _ => by omega
  | n + 1, t, ks, h, d + 1, hd, v, v', x, y, r, hv, hv', hx, hy, hr => by
    have basic : ∀ kd, kindT P t = some kd → aggT P t = some false → ks = [kd] → (Op.equalIn (d + 1) t v v').run P w = .ok r w := by
      intro kd hkd ha hks
      subst hks
      rcases hx with ⟨q, _⟩ | ⟨_, hx⟩
      · rw [ha] at q; cases q
      rcases hy with ⟨q, _⟩ | ⟨_, hy⟩
      · rw [ha] at q; cases q
      rw [hx, hy] at hr
      simp only [eqAll] at hr
      split at hr
      · rename_i p q h1 h2
        cases h2; cases hr
        rw [Bool.and_true]
        exact eqB_run hkd hv hv' h1
      · cases hr
    have aggr : aggT P t = some true → ∃ cs ds xs ys, x = .agg cs ∧ y = .agg ds ∧ v = .agg xs ∧ v' = .agg ys ∧ flatL cs ∧ flatL ds ∧ RL w I ρ xs.toList cs ∧ RL w I ρ ys.toList ds := by
      intro ha
      rcases hx with ⟨_, cs, rfl⟩ | ⟨q, _⟩
      rcases hy with ⟨_, ds, rfl⟩ | ⟨q, _⟩
      · obtain ⟨xs, rfl, f1, r1⟩ := inv_agg hv
        obtain ⟨ys, rfl, f2, r2⟩ := inv_agg hv'
        exact ⟨cs, ds, xs, ys, rfl, rfl, rfl, rfl, f1, f2, r1, r2⟩
      · rw [ha] at q; cases q
      · rw [ha] at q; cases q
    unfold flatTy at h
    split at h
    · rename_i hu
      cases h
      exact basic 0 (by simp [kindT, hu]) (by simp [aggT, hu]) rfl
    · rename_i hu
      cases h
      exact basic 1 (by simp [kindT, hu]) (by simp [aggT, hu]) rfl
    · rename_i hu
      cases h
      exact basic 2 (by simp [kindT, hu]) (by simp [aggT, hu]) rfl
    · rename_i len e hu
      split at h
      · rename_i js hj
        split at h
        · rename_i hs
          cases h
          obtain ⟨cs, ds, xs, ys, rfl, rfl, rfl, rfl, f1, f2, r1, r2⟩ := aggr (by simp [aggT, hu])
          obtain ⟨ag, ha, h1⟩ := flatTy_shape hj
          have hs' := hs.1
          unfold sizT at hs'
          obtain ⟨i, hi, his⟩ := Option.map_eq_some_iff.1 hs'
          have hce : P.cellsOf e = js.length := by simp [Program.cellsOf, hi, his]
          rw [run_equalIn_array w d xs ys hu hi, hce, List.range_eq_range']
          exact eqItems_run hs.1 rfl hs.2 ha h1 (fun v v' x y r a b c e' f => eqT_run n e js hj d (by omega) v v' x y r a b c e' f) r1 r2 f1 f2 len 0 r (by simpa [V.cells] using hr)
        · cases h
      · cases h
    · rename_i fs hu
      split at h
      · cases h
      · rename_i hst
        obtain ⟨cs, ds, xs, ys, rfl, rfl, rfl, rfl, f1, f2, r1, r2⟩ := aggr (by simp [aggT, hu])
        have hfo : P.fieldsOf t = fs := by simp [Program.fieldsOf, hu]
        rw [run_equalIn_struct w d t xs ys (by rw [hfo]; exact hu) (by simpa using hst), hfo]
        exact eqFields_run (flatTy P n) (fun e ks' he => ⟨flatTy_shape he, fun v v' x y r a b c e' f => eqT_run n e ks' he d (by omega) v v' x y r a b c e' f⟩) r1 r2 f1 f2 fs.toList 0 ks r h (by simpa [V.cells] using hr)
    · cases h
end
end Go.Dm
namespace Go.Dm
section
variable {P : Program} {w0 w : World} {O I0 I : Nat → Prop} {ρ : Rho} {g : Nat → Option Obj} {used : Nat → Prop} {nm : Nat}

theorem snd_eqa {op : BinOp} {neg : Bool} {t : TypeId} {ks : List Nat} {x y : Operand} {v v' : Value} {cs ds : List V} {r : Bool} (hop : op = if neg then .neq else .eql) (hk : flatTy P 6 t = some ks) (hg : P.eqGuardType P.depth t = false)
    (ha : aggT P t = some true) (hv : R w I ρ v (.agg cs)) (hv' : R w I ρ v' (.agg ds)) (hr : eqAll ks cs ds = some r) :
    (do eqGuard op t x y v v'; binOp op t v v' : Sem Value).run P w = .ok (.bool (if neg then !r else r)) w := by
  have h := eqT_run (P := P) 6 t ks hk 10000 (by omega) v v' _ _ r hv hv' (.inl ⟨ha, _, rfl⟩) (.inl ⟨ha, _, rfl⟩) hr
  obtain ⟨xs, rfl, _, _⟩ := inv_agg hv
  obtain ⟨ys, rfl, _, _⟩ := inv_agg hv'
  simp only [Sem.run_bind, run_eqGuard_agg w op t x y xs ys hg, Result.andThen_ok]
  cases neg
  · simp only [hop, Bool.false_eq_true, if_false]
    rw [run_eql_struct, h]; rfl
  · simp only [hop, if_true]
    rw [run_neq_struct, h]; rfl

theorem run_zeroE {t : TypeId} {z : V} (h : zeroE P t = some z) : ∃ zv, (∀ w, (zeroValue t).run P w = .ok zv w) ∧ ∀ (w : World) (I : Nat → Prop) (ρ : Rho), R w I ρ zv z := by
  obtain ⟨i, zv, h1, h2, h3⟩ := zeroE_some h
  exact ⟨zv, fun w => by simp [zeroValue, typeInfo, h1, h2], h3⟩

theorem kindT_desc {t : TypeId} {kd : Nat} (h : kindT P t = some kd) : ∃ d, P.underlying t = some d ∧ ((kd = 0 ∧ d = .bool) ∨ (kd = 1 ∧ ∃ k, d = .int k) ∨ (kd = 2 ∧ d = .string)) := by
  unfold kindT at h
  split at h <;> simp_all

theorem run_checkKey' {t : TypeId} {kd : Nat} (h : kindT P t = some kd) (e : Bool) (n : Nat) (v : Value) : (Instr.checkKey e (n + 1) t v).run P w = .ok () w := by
  obtain ⟨d, hd, h⟩ := kindT_desc h
  unfold Instr.checkKey
  simp only [Sem.run_bind, run_underlying hd, Result.andThen]
  rcases h with ⟨_, rfl⟩ | ⟨_, k, rfl⟩ | ⟨_, rfl⟩ <;> cases v <;> simp

theorem bytes_eq' (a b : List UInt8) : ((⟨a.toArray⟩ : ByteArray) == (⟨b.toArray⟩ : ByteArray)) = (a == b) := by
  rw [beq_toListBytes, bytes_eq]

theorem sameNow_of {d : TypeDesc} {kd : Nat} {k e : Value} {x y : V} {r : Bool} (hd : (kd = 0 ∧ d = .bool) ∨ (kd = 1 ∧ ∃ k, d = .int k) ∨ (kd = 2 ∧ d = .string)) {ρ' : Rho} (hk : R w I ρ k x) (he : R w I ρ' e y) (h : eqB kd x y = some r) :
    Instr.sameNow d k e = some r ∧ (r = true → x = y ∧ Instr.sameBits 10000 e k = true) := by
  unfold eqB at h
  split at h
  · cases inv_bool hk; cases inv_bool he
    split at h
    · rename_i hk0
      subst hk0; cases h
      rcases hd with ⟨_, rfl⟩ | ⟨h, _⟩ | ⟨h, _⟩
      · exact ⟨rfl, fun h => by have := eq_of_beq h; subst this; simp [Instr.sameBits]⟩
      · cases h
      · cases h
    · cases h
  · cases inv_int hk; cases inv_int he
    split at h
    · rename_i hk0
      obtain ⟨rfl, rfl⟩ := hk0; cases h
      rcases hd with ⟨h, _⟩ | ⟨_, q, rfl⟩ | ⟨h, _⟩
      · cases h
      · exact ⟨by simp [Instr.sameNow], fun h => by have := eq_of_beq h; subst this; simp [Instr.sameBits]⟩
      · cases h
    · cases h
  · cases inv_str hk; cases inv_str he
    split at h
    · rename_i hk0
      subst hk0; cases h
      rcases hd with ⟨h, _⟩ | ⟨h, _⟩ | ⟨_, rfl⟩
      · cases h
      · cases h
      · refine ⟨by simp only [Instr.sameNow, bytes_eq'], fun h => ?_⟩
        have := eq_of_beq h; subst this
        refine ⟨rfl, ?_⟩
        unfold Instr.sameBits
        rw [bytes_eq']; simp
    · cases h
  · cases h

theorem entL_cons (e : MapEntry) (l : List MapEntry) : entL (e :: l) = e.key :: e.val :: entL l := by simp [entL]
theorem mpL_cons (p : V × V) (l : List (V × V)) : mpL (p :: l) = p.1 :: p.2 :: mpL l := by simp [mpL]

theorem mfind_run {d : TypeDesc} {kd : Nat} {k : Value} {x : V} (hd : (kd = 0 ∧ d = .bool) ∨ (kd = 1 ∧ ∃ k, d = .int k) ∨ (kd = 2 ∧ d = .string)) (hk : R w I ρ k x) :
    ∀ (l : List MapEntry) (es : List (V × V)) (i : Nat) (o : Option V), RL w I rho0 (entL l) (mpL es) → mfind kd x es = some o →
      (o = none ∧ Instr.findNow d k l i = some none) ∨ (∃ y j e, o = some y ∧ Instr.findNow d k l i = some (some (i + j, e.val)) ∧ l[j]? = some e ∧ R w I rho0 e.val y)
  | [], [], i, o, _, h => by
    simp only [mfind, Option.some.injEq] at h
    exact .inl ⟨h.symm, rfl⟩
  | [], p :: es, i, o, hr, _ => by have := hr.length; simp [entL, mpL] at this
  | e :: l, [], i, o, hr, _ => by have := hr.length; simp [entL, mpL] at this
  | e :: l, (a, b) :: es, i, o, hr, h => by
    rw [entL_cons, mpL_cons] at hr
    obtain ⟨h1, hr⟩ := hr.cons_split
    obtain ⟨h2, hr⟩ := hr.cons_split
    simp only [mfind] at h
    split at h
    · rename_i hq
      cases h
      exact .inr ⟨b, 0, e, rfl, by simp [Instr.findNow, (sameNow_of hd hk h1 hq).1], rfl, h2⟩
    · rename_i hq
      have hs := (sameNow_of hd hk h1 hq).1
      rcases mfind_run hd hk l es (i + 1) o hr h with ⟨rfl, h3⟩ | ⟨y, j, e', rfl, h3, h4, h5⟩
      · exact .inl ⟨rfl, by simp [Instr.findNow, hs, h3]⟩
      · exact .inr ⟨y, j + 1, e', rfl, by simp [Instr.findNow, hs, h3]; omega, by simpa using h4, h5⟩
    · cases h

theorem snd_lenM {t q e ty : TypeId} {v : Value} {p : V} {n : Nat} (hR : Rel w0 O I0 I ρ g used w) (hu : P.underlying t = some (.map q e)) (hv : R w I ρ v p) (hx : lenMV g p = some n) :
    (Builtin.len_ #[t] ty #[v]).run P w = .ok (.int .i64 (n : Int)) w := by
  unfold lenMV at hx
  split at hx
  · cases hx; cases inv_nilm hv
    simp [Builtin.len_, Sem.run_bind, run_underlying hu, goInt]
  · rename_i h
    split at hx
    · rename_i es hg
      cases hx
      obtain ⟨b, s, rfl, hr⟩ := inv_hm hv
      obtain ⟨b', s', q1, q2, q3, en, clock, q4, q5, q6, q7⟩ := hR.obj h _ hg
      rw [hr] at q1; cases q1
      have hobj : (getObj b).run P w = .ok (.map en clock) w := by simp [getObj, Sem.run, q4]
      have hl := q5.length
      have e1 : ∀ l : List MapEntry, (entL l).length = 2 * l.length := fun l => by
        induction l with
        | nil => rfl
        | cons x l ih => simp only [entL, List.flatMap_cons, List.length_append, List.length_cons, List.length_nil] at ih ⊢; omega
      have e2 : ∀ l : List (V × V), (mpL l).length = 2 * l.length := fun l => by
        induction l with
        | nil => rfl
        | cons x l ih => simp only [mpL, List.flatMap_cons, List.length_append, List.length_cons, List.length_nil] at ih ⊢; omega
      rw [e1, e2, Array.length_toList] at hl
      have hsz : en.size = es.length := by omega
      simp [Builtin.len_, Sem.run_bind, run_underlying hu, goInt, hobj, hsz]
    · cases hx
  · cases hx

theorem snd_look {t q e : TypeId} {kd : Nat} {z : V} {ok : Bool} {m k : Value} {p x : V} {o : Option V} (hR : Rel w0 O I0 I ρ g used w) (hu : P.underlying t = some (.map q e)) (hq : kindT P q = some kd) (hz : zeroE P e = some z)
    (hm : R w I ρ m p) (hk : R w I ρ k x)
    (hx : lookV g kd x p = some o) :
    ∃ v, (Instr.lookup t m k ok).run P w = .ok v w ∧ R w I ρ v (lookR z ok o) := by
  obtain ⟨zv, hz1, hz2⟩ := run_zeroE hz
  obtain ⟨d, hd, hkd⟩ := kindT_desc hq
  unfold lookV at hx
  split at hx
  · cases inv_nilm hm
    split at hx
    · cases hx
      refine ⟨if ok then .tuple #[zv, .bool false] else zv, ?_, ?_⟩
      · simp [Instr.lookup, Sem.run_bind, run_underlying hu, run_checkKey' hq, Instr.findKey, run_underlying hd, Instr.findNow, hz1, Result.andThen]
      · cases ok
        · exact hz2 _ _ _
        · exact RL.tup _ _ (RL.cons (hz2 _ _ _) (RL.bool _ RL.nil)) RL.nil
    · cases hx
  · rename_i h
    split at hx
    · rename_i es hg
      split at hx
      · obtain ⟨b, s, rfl, hr⟩ := inv_hm hm
        obtain ⟨b', s', q1, q2, q3, en, clock, q4, q5, q6, q7⟩ := hR.obj h _ hg
        rw [hr] at q1; cases q1
        have hfind : ∀ {a}, Instr.findNow d k en.toList 0 = some a → (Instr.findKey q k en.toList).run P w = .ok a w := fun h => by
          simp [Instr.findKey, run_underlying hd, Result.andThen, h]
        have hobj : (getObj b).run P w = .ok (.map en clock) w := by simp [getObj, Sem.run, q4]
        rcases mfind_run hkd hk en.toList es 0 o q5 hx with ⟨rfl, h3⟩ | ⟨y, j, e', rfl, h3, h4, h5⟩
        · refine ⟨if ok then .tuple #[zv, .bool false] else zv, ?_, ?_⟩
          · simp [Instr.lookup, Sem.run_bind, run_underlying hu, hobj, run_checkKey' hq, hfind h3, hz1, Result.andThen]
          · cases ok
            · exact hz2 _ _ _
            · exact RL.tup _ _ (RL.cons (hz2 _ _ _) (RL.bool _ RL.nil)) RL.nil
        · refine ⟨if ok then .tuple #[e'.val, .bool true] else e'.val, ?_, ?_⟩
          · simp [Instr.lookup, Sem.run_bind, run_underlying hu, hobj, run_checkKey' hq, hfind h3, hz1, Result.andThen]
          · cases ok
            · exact h5.of0
            · exact RL.tup _ _ (RL.cons h5.of0 (RL.bool _ RL.nil)) RL.nil
      · cases hx
    · cases hx
  · cases hx

theorem snd_s2ap {t e : TypeId} {n : Nat} {v : Value} {p x : V} (hu : P.underlying t = some (.array n e)) (hv : R w I ρ v p)
    (hx : s2apV n p = some x) : ∃ u, (Instr.arrayAt t v).run P w = .ok u w ∧ R w I ρ u x := by
  unfold s2apV at hx
  split at hx
  · split at hx
    · rename_i h off len hh
      cases hx
      cases hv with
      | hs _ _ _ b s cap h1 h2 h3 _ =>
        refine ⟨_, by simp [Instr.arrayAt, Sem.run_bind, run_underlying hu, Nat.not_lt.2 hh.2]; rfl, ?_⟩
        have := RL.hp (w := w) (I := I) (ρ := ρ) h off 0 b s h1 RL.nil
        simpa using this
      | hs0 => omega
    · cases hx
  · split at hx
    · rename_i es s hh
      cases hx
      cases hv with
      | sl0 => simp at hh; omega
      | sl1 b o cap s es cs hc h1 h0 h2 h3 h4 _ =>
        exact ⟨_, by simp [Instr.arrayAt, Sem.run_bind, run_underlying hu, Nat.not_lt.2 hh.2], RL.pt _ _ _ cs h0 h2 h3 h4 RL.nil⟩
    · cases hx
  · cases hx

theorem mput_run {d : TypeDesc} {kd : Nat} {k v : Value} {x y : V} (hd : (kd = 0 ∧ d = .bool) ∨ (kd = 1 ∧ ∃ k, d = .int k) ∨ (kd = 2 ∧ d = .string)) (hk : R w I ρ k x) (hk0 : R w I rho0 k x) (hv : R w I rho0 v y) (clock : Nat) :
    ∀ (l : List MapEntry) (es es' : List (V × V)) (i : Nat), RL w I rho0 (entL l) (mpL es) → mput kd x y es = some es' →
      (Instr.findNow d k l i = some none ∧ RL w I rho0 (entL (l ++ [{ key := k, val := v, born := clock }])) (mpL es')) ∨
      (∃ j e, Instr.findNow d k l i = some (some (i + j, e.val)) ∧ l[j]? = some e ∧ Instr.sameBits 10000 e.key k = true ∧ RL w I rho0 (entL (l.modify j fun e => { e with key := k, val := v })) (mpL es'))
  | [], [], es', i, _, h => by
    simp only [mput, Option.some.injEq] at h
    subst h
    exact .inl ⟨rfl, by simpa [entL, mpL] using RL.cons hk0 (RL.cons hv RL.nil)⟩
  | [], p :: es, o, i, hr, _ => by have := hr.length; simp [entL, mpL] at this
  | e :: l, [], o, i, hr, _ => by have := hr.length; simp [entL, mpL] at this
  | e :: l, (a, b) :: es, es', i, hr, h => by
    rw [entL_cons, mpL_cons] at hr
    obtain ⟨h1, hr1⟩ := hr.cons_split
    obtain ⟨h2, hr2⟩ := hr1.cons_split
    simp only [mput] at h
    split at h
    · rename_i hq
      cases h
      obtain ⟨s1, s2⟩ := sameNow_of hd hk h1 hq
      obtain ⟨rfl, s3⟩ := s2 rfl
      refine .inr ⟨0, e, by simp [Instr.findNow, s1], rfl, s3, ?_⟩
      simp only [List.modify_zero_cons, entL_cons, mpL_cons]
      exact RL.cons hk0 (RL.cons hv hr2)
    · rename_i hq
      have hs := (sameNow_of hd hk h1 hq).1
      obtain ⟨es1, he1, rfl⟩ := Option.map_eq_some_iff.1 h
      rcases mput_run hd hk hk0 hv clock l es es1 (i + 1) hr2 he1 with ⟨h3, h4⟩ | ⟨j, e', h3, h4, h5, h6⟩
      · refine .inl ⟨by simp [Instr.findNow, hs, h3], ?_⟩
        rw [List.cons_append, entL_cons, mpL_cons]
        exact RL.cons h1 (RL.cons h2 h4)
      · refine .inr ⟨j + 1, e', by simp [Instr.findNow, hs, h3]; omega, by simpa using h4, h5, ?_⟩
        simp only [List.modify_succ_cons, entL_cons, mpL_cons]
        exact RL.cons h1 (RL.cons h2 h6)
    · cases h

theorem kind_rho0 {kd : Nat} {k : Value} {x : V} (hk : R w I ρ k x) (h : kindB kd x = true) {I' : Nat → Prop} : R w I' rho0 k x := by
  unfold kindB at h
  split at h
  · cases inv_bool hk; exact RL.bool _ RL.nil
  · cases inv_int hk; exact RL.int _ _ RL.nil
  · cases inv_str hk; exact RL.str _ RL.nil
  · cases h

theorem run_keyThatStays' {e k : Value} (h : Instr.sameBits 10000 e k = true) : (Instr.keyThatStays e k).run P w = .ok k w := by
  simp [Instr.keyThatStays, h]

theorem csize_map {w : World} {b : Nat} {en : Array MapEntry} {clock : Nat} (h : w.heap[b]? = some (.map en clock)) (c : Go.Obj) : csize w b ≤ csize (put w b c) b := by
  unfold csize; rw [h]; exact Nat.zero_le _

theorem snd_mset {t q e : TypeId} {kd : Nat} {m k v : Value} {x y z : V} {ks : List Nat} {es es' : List (V × V)} {h : Nat} (hR : Rel w0 O I0 I ρ g used w) (hu : P.underlying t = some (.map q e)) (hq : kindT P q = some kd)
    (hm : R w I ρ m (.hm h)) (hk : R w I ρ k x) (hv : R w I ρ v z) (hg : g h = some (.mp es)) (hd : deep g 6 z = some (y, ks)) (hkk : kindB kd x = true) (hks : h ∉ ks) (hp : mput kd x y es = some es') :
    ∃ w' I', (Instr.mapUpdate t m k v).run P w = .ok () w' ∧ Rel w0 O I0 I' ρ (applyU ((h, some (.mp es')) :: kills ks) g) used w' ∧ Ext w I ρ w' I' ρ := by
  obtain ⟨dd, hdd, hkd⟩ := kindT_desc hq
  obtain ⟨b, s, rfl, hr⟩ := inv_hm hm
  obtain ⟨r1, r2, r3, r4, r5⟩ := deep_live hR hd hv
  have hg1 : applyU (kills ks) g h = some (.mp es) := by rw [applyU_kills, if_neg hks]; exact hg
  obtain ⟨b', s', q1, q2, q3, en, clock, q4, q5, q6, q7⟩ := r1.obj h _ hg1
  rw [hr] at q1; cases q1
  have hobj : (getObj b).run P w = .ok (.map en clock) w := by simp [getObj, Sem.run, q4]
  have hfind : ∀ {a}, Instr.findNow dd k en.toList 0 = some a → (Instr.findKey q k en.toList).run P w = .ok a w := fun h => by
    simp [Instr.findKey, run_underlying hdd, Result.andThen, h]
  have hset : ∀ c, (setObj b c).run P w = .ok () (put w b c) := fun c => by simp [setObj, Sem.run, q4, put]
  have hlt : b < w.heap.size := (Array.getElem?_eq_some_iff.1 q4).1
  have hk' : R w (freezeI I ρ ks) ρ k x := r2.rl hk
  rcases mput_run hkd hk' (kind_rho0 hk' hkk) r3 clock en.toList es es' 0 q5 hp with ⟨h3, h4⟩ | ⟨j, e', h3, h4, h5, h6⟩
  · obtain ⟨e1, e2⟩ := r1.write h (.mp es) (.mp es') b s hg1 hr (.map (en.push { key := k, val := v, born := clock }) (clock + 1)) (csize_map q4 _) (fun hx => by
      refine ⟨_, _, put_get hlt, ?_, ?_, ?_⟩
      · rw [Array.toList_push]; exact hx.rl0 h4
      · rw [Array.toList_push, List.map_append, List.nodup_append]
        refine ⟨q6, by simp, ?_⟩
        intro a ha c hc
        obtain ⟨e1, he1, rfl⟩ := List.mem_map.1 ha
        simp at hc
        subst hc
        have := q7 e1 he1
        omega
      · intro e1 he1
        rw [Array.toList_push, List.mem_append] at he1
        rcases he1 with he1 | he1
        · have := q7 e1 he1; omega
        · simp at he1; subst he1; simp)
    refine ⟨_, _, ?_, ?_, r2.trans e2⟩
    · simp [Instr.mapUpdate, Sem.run_bind, run_underlying hu, hobj, run_checkKey' hq, hfind h3, hset, Result.andThen]
    · rw [applyU_set _ _ _ hks]; exact e1
  · have hj : en[j]? = some e' := by simpa using h4
    have hmod : (en.modify j fun e => { e with key := k, val := v }).toList = en.toList.modify j fun e => { e with key := k, val := v } := by simp
    have hborn : (en.toList.modify j fun e => { e with key := k, val := v }).map (·.born) = en.toList.map (·.born) := by
      apply List.ext_getElem?
      intro i
      simp only [List.getElem?_map, List.getElem?_modify]
      cases en.toList[i]? <;> simp
      split <;> rfl
    obtain ⟨e1, e2⟩ := r1.write h (.mp es) (.mp es') b s hg1 hr (.map (en.modify j fun e => { e with key := k, val := v }) clock) (csize_map q4 _) (fun hx => by
      refine ⟨_, _, put_get hlt, ?_, ?_, ?_⟩
      · rw [hmod]; exact hx.rl0 h6
      · rw [hmod, hborn]; exact q6
      · intro e1 he1
        rw [hmod] at he1
        have : e1.born ∈ (en.toList.modify j fun e => { e with key := k, val := v }).map (·.born) := List.mem_map.2 ⟨e1, he1, rfl⟩
        rw [hborn] at this
        obtain ⟨e2, he2, hb⟩ := List.mem_map.1 this
        have := q7 e2 he2
        omega)
    refine ⟨_, _, ?_, ?_, r2.trans e2⟩
    · simp [Instr.mapUpdate, Sem.run_bind, run_underlying hu, hobj, run_checkKey' hq, hfind h3, hj, run_keyThatStays' h5, hset, Result.andThen]
    · rw [applyU_set _ _ _ hks]; exact e1

theorem snd_mkmap {t : TypeId} (hR : Rel w0 O I0 I ρ g used w) (hn : ¬ used nm) :
    Leaves w0 O I0 (upd g nm (some (.mp []))) (fun h => used h ∨ h = nm) w I ρ ((Instr.makeMap t none).run P w) (.hm nm) := by
  obtain ⟨e1, e2⟩ := hR.alloc nm 0 hn (.mp []) (.map #[] 0) ⟨#[], 0, (heap_alloc_new w _), by simpa [entL, mpL] using RL.nil, by simp, by simp⟩
  exact ⟨_, _, _, _, by simp [Instr.makeMap, newObj]; rfl, RL.hm _ _ 0 (upd_same _ _ _) RL.nil, e1, e2⟩

theorem hasM_eq (want : Array (String × TypeId)) (got : Array Method) : (Instr.missingMethod want got).isNone = hasM want got := by
  have hl : ∀ l : List String, (Instr.least l).isNone = l.isEmpty := fun l => by cases l <;> rfl
  have hp : ∀ (p : String → Bool) (l : List String), ((Instr.least (l.partition p).2).orElse fun _ => Instr.least (((l.partition p).1).map fun id => (id.splitOn ".").getLastD id)).isNone = l.isEmpty := by
    intro p l
    rw [List.partition_eq_filter_filter]
    cases l with
    | nil => rfl
    | cons a l =>
      cases h : p a <;> simp [h, Instr.least]
  have he : (Instr.missingMethod want got).isNone = ((want.toList.filter fun (name, sig) => !got.any fun m => m.name == name && m.sig == sig).map (·.1)).isEmpty := hp (·.contains '.') _
  rw [he, hasM]
  induction want.toList with
  | nil => rfl
  | cons a l ih =>
    simp only [List.filter_cons, List.all_cons, ← Array.any_toList]
    cases h : got.toList.any fun m => m.name == a.1 && m.sig == a.2 <;> simp [← Array.any_toList] at ih ⊢
    exact ih
theorem implT_spec {want : Array (String × TypeId)} {yes : Bool} {t : TypeId} (h : (implT P want yes).contains t = true) : ∃ i, P.info? t = some i ∧ (Instr.missingMethod want i.methods).isNone = yes := by
  have := List.contains_iff_mem.1 h
  unfold implT at this
  rw [List.mem_filter] at this
  obtain ⟨_, h⟩ := this
  split at h
  · rename_i i hi
    simp only [Bool.and_eq_true] at h
    exact ⟨i, hi, by rw [hasM_eq]; simpa using h.2⟩
  · cases h

theorem snd_asrtI {t asserted : TypeId} {want : Array (String × TypeId)} {z : V} {ok : Bool} {v : Value} {p x : V} (hu : P.underlying asserted = some (.interface want)) (hz : zeroE P asserted = some z) (hv : R w I ρ v p)
    (hx : asrtV (implT P want true) (implT P want false) false z ok p = some x) : ∃ u, (Instr.typeAssert v t asserted ok).run P w = .ok u w ∧ R w I ρ u x := by
  obtain ⟨zv, hz1, hz2⟩ := run_zeroE hz
  unfold asrtV at hx
  split at hx
  · rename_i t' v'
    obtain ⟨u, rfl, hu'⟩ := inv_iface hv
    split at hx
    · rename_i hc
      obtain ⟨i, hi, hm⟩ := implT_spec hc
      have hm' := Option.isNone_iff_eq_none.1 hm
      cases hx
      cases ok
      · refine ⟨_, ?_, hv⟩
        simp [Instr.typeAssert, Sem.run_bind, run_underlying hu, typeInfo, hi, hm']
      · refine ⟨_, ?_, RL.tup #[.iface t' u, .bool true] [.iface t' v', .bool true] (RL.cons hv (RL.bool _ RL.nil)) RL.nil⟩
        simp [Instr.typeAssert, Sem.run_bind, run_underlying hu, typeInfo, hi, hm']
    · split at hx
      · rename_i hh
        obtain ⟨rfl, hh⟩ := hh
        cases hx
        obtain ⟨i, hi, hm⟩ := implT_spec (hh.resolve_left (by simp))
        cases hm' : Instr.missingMethod want i.methods with
        | none => simp [hm'] at hm
        | some m =>
          refine ⟨_, ?_, RL.tup #[zv, .bool false] [z, .bool false] (RL.cons (hz2 _ _ _) (RL.bool _ RL.nil)) RL.nil⟩
          simp [Instr.typeAssert, Sem.run_bind, run_underlying hu, typeInfo, hi, hm', hz1]
      · cases hx
  · cases inv_nili hv
    split at hx
    · rename_i hok
      subst hok
      cases hx
      refine ⟨_, ?_, RL.tup #[zv, .bool false] [z, .bool false] (RL.cons (hz2 _ _ _) (RL.bool _ RL.nil)) RL.nil⟩
      simp [Instr.typeAssert, Sem.run_bind, run_underlying hu, hz1]
    · cases hx
  · cases hx

theorem snd_asrtC {t asserted : TypeId} {d : TypeDesc} {z : V} {ok : Bool} {v : Value} {p x : V} (hu : P.underlying asserted = some d) (hd : ∀ want, d ≠ .interface want) (hz : zeroE P asserted = some z) (hv : R w I ρ v p)
    (hx : asrtV [asserted] [] true z ok p = some x) : ∃ u, (Instr.typeAssert v t asserted ok).run P w = .ok u w ∧ R w I ρ u x := by
  obtain ⟨zv, hz1, hz2⟩ := run_zeroE hz
  have key : ∀ v, (Instr.typeAssert v t asserted ok).run P w = (match v with
      | .nilIface => (if ok then pure (.tuple #[zv, .bool false]) else runtimePanic (.typeAssertion (some t) none asserted "") : Sem Value)
      | .iface t' v' => if t' = asserted then pure (if ok then .tuple #[v', .bool true] else v') else (if ok then pure (.tuple #[zv, .bool false]) else runtimePanic (.typeAssertion (some t) (some t') asserted ""))
      | _ => stuck "TypeAssert: interface value expected").run P w := by
    intro v
    cases d <;> first | (exact absurd rfl (hd _)) | (cases v <;> cases ok <;> simp [Instr.typeAssert, Sem.run_bind, run_underlying hu, hz1] <;> (try split) <;> simp [hz1, Sem.run_bind])
  rw [key]
  unfold asrtV at hx
  split at hx
  · rename_i t' v'
    obtain ⟨u, rfl, hu'⟩ := inv_iface hv
    split at hx
    · rename_i hc
      have hc : t' = asserted := by simpa using hc
      cases hx
      simp only [hc, if_true]
      cases ok
      · exact ⟨_, rfl, hu'⟩
      · exact ⟨_, rfl, RL.tup #[u, .bool true] [v', .bool true] (RL.cons hu' (RL.bool _ RL.nil)) RL.nil⟩
    · rename_i hc
      have hc : ¬ t' = asserted := by simpa using hc
      split at hx
      · rename_i hh
        obtain ⟨rfl, hh⟩ := hh
        cases hx
        simp only [hc, if_false, if_true]
        exact ⟨_, rfl, RL.tup #[zv, .bool false] [z, .bool false] (RL.cons (hz2 _ _ _) (RL.bool _ RL.nil)) RL.nil⟩
      · cases hx
  · cases inv_nili hv
    split at hx
    · rename_i hok
      subst hok
      cases hx
      exact ⟨_, rfl, RL.tup #[zv, .bool false] [z, .bool false] (RL.cons (hz2 _ _ _) (RL.bool _ RL.nil)) RL.nil⟩
    · cases hx
  · cases hx
end
end Go.Dm
set_option linter.unusedSimpArgs false
set_option linter.unusedVariables false
set_option linter.unusedSectionVars false
namespace Go.Dm

section
variable {P : Program} {w0 w : World} {O I0 I : Nat → Prop} {ρ : Rho} {g : Nat → Option Obj} {used : Nat → Prop} {nm : Nat} {gl : Nat → Option (List V)} {a : Act} {env : Nat → V} {o : Oper} {eff : Eff} {eqs : List TypeId}

theorem Rel.none_of (hR : Rel w0 O I0 I ρ g used w) (hn : ¬ used nm) : g nm = none := by
  cases hg : g nm with
  | none => rfl
  | some o =>
    obtain ⟨b, s, h, _⟩ := hR.obj nm o hg
    exact absurd (hR.dom _ _ h) hn

abbrev DoneAt (w0 : World) (O I0 : Nat → Prop) (g : Nat → Option Obj) (used : Nat → Prop) (nm : Nat) (w : World) (I : Nat → Prop) (ρ : Rho) (res : Result Next) (eff : Eff) : Prop :=
  Done w0 O I0 (applyE g nm eff) (fun h => used h ∨ h = nm) w I ρ res eff.v

/-- The same world. -/
theorem done_val (hR : Rel w0 O I0 I ρ g used w) {s : Sem Next} {v : Value} {x : V} (hs : s.run P w = .ok (.value v) w) (hv : R w I ρ v x) : DoneAt w0 O I0 g used nm w I ρ (s.run P w) (Eff.val x) :=
  Done.pure hR hs hv
theorem done_leaves {s : Sem Value} (h : Leaves w0 O I0 (applyE g nm eff) (fun h => used h ∨ h = nm) w I ρ (s.run P w) eff.v) :
    DoneAt w0 O I0 g used nm w I ρ ((do pure (Next.value (← s)) : Sem Next).run P w) eff := by
  obtain ⟨v, w', I', ρ', h1, h2, h3, h4⟩ := h
  exact ⟨_, v, w', I', ρ', run_v h1, .inl rfl, h2, h3, h4⟩

variable (hR : Rel w0 O I0 I ρ g used w) (hn : ¬ used nm) (hE : EnvR w I ρ a env) (hG : GlR w I gl) (hts : EqTypes P eqs)
include hR hn hE hG hts

theorem op_move {x : Operand} {d : DOp} (ho : o.op = .move x) (hc : cOp P eqs o.op = some d) (hst : step (evX env) g gl nm d = some eff) : DoneAt w0 O I0 g used nm w I ρ ((execOp a.eval o).run P w) eff := by
  rw [ho] at hc
  simp only [cOp, Option.map_eq_some_iff] at hc
  obtain ⟨y, hy, rfl⟩ := hc
  simp only [step, Option.some.injEq] at hst
  subst hst
  exact done_val hR (by simp [execOp, ho]) (cX_sound hE hy)
theorem op_assign {x : Operand} {d : DOp} (ho : o.op = .assign x) (hc : cOp P eqs o.op = some d) (hst : step (evX env) g gl nm d = some eff) : DoneAt w0 O I0 g used nm w I ρ ((execOp a.eval o).run P w) eff := by
  rw [ho] at hc
  simp only [cOp, Option.map_eq_some_iff] at hc
  obtain ⟨y, hy, rfl⟩ := hc
  simp only [step, Option.some.injEq] at hst
  subst hst
  exact done_val hR (by simp [execOp, ho]) (cX_sound hE hy)
theorem op_pick {x y z : Operand} {d : DOp} (ho : o.op = .pick x y z) (hc : cOp P eqs o.op = some d) (hst : step (evX env) g gl nm d = some eff) : DoneAt w0 O I0 g used nm w I ρ ((execOp a.eval o).run P w) eff := by
  rw [ho] at hc
  simp only [cOp] at hc
  split at hc
  · rename_i x' y' z' h1 h2 h3
    cases hc
    simp only [step] at hst
    split at hst
    · rename_i b hb
      cases hst
      have := cX_sound hE h1
      rw [hb] at this
      have hx := inv_bool this
      refine done_val hR (v := if b then a.eval y else a.eval z) ?_ ?_
      · simp [execOp, ho, hx, asBool]
      · cases b
        · exact cX_sound hE h3
        · exact cX_sound hE h2
    · cases hst
  · cases hc
theorem op_binOp {op : BinOp} {t u : TypeId} {x y : Operand} {d : DOp} (ho : o.op = .binOp op t x y u) (hc : cOp P eqs o.op = some d) (hst : step (evX env) g gl nm d = some eff) : DoneAt w0 O I0 g used nm w I ρ ((execOp a.eval o).run P w) eff := by
  rw [ho] at hc
  have hbin : ∀ {x' y' : X}, cX x = some x' → cX y = some y' → step (evX env) g gl nm (.bin op x' y') = some eff → DoneAt w0 O I0 g used nm w I ρ ((execOp a.eval o).run P w) eff := by
    intro x' y' h1 h2 hst
    simp only [step, Option.map_eq_some_iff] at hst
    obtain ⟨z, hz, rfl⟩ := hst
    obtain ⟨v, hv, hvr⟩ := snd_bin (P := P) (t := t) (x := x) (y := y) (cX_sound hE h1) (cX_sound hE h2) hz
    exact done_val hR (by simp only [execOp, ho]; exact run_v hv) hvr
  have heq : ∀ {x' y' : X} {kd : Nat} {neg lit : Bool} {ts : List TypeId} {dd : TypeDesc}, cX x = some x' → cX y = some y' → op = (if neg then .neq else .eql) → P.underlying t = some dd → EqTypes P ts →
      kdOk kd dd → (lit = true → (∃ c, x = .const c) ∨ (∃ c, y = .const c)) →
      step (evX env) g gl nm (.eqv kd neg lit ts x' y') = some eff → DoneAt w0 O I0 g used nm w I ρ ((execOp a.eval o).run P w) eff := by
    intro x' y' kd neg lit ts dd h1 h2 hop hd hts' hdd hlit hst
    simp only [step, Option.map_eq_some_iff] at hst
    obtain ⟨r, hr, rfl⟩ := hst
    have hv := snd_eqv (P := P) (neg := neg) (t := t) (x := x) (y := y) hts' (cX_sound hE h1) (cX_sound hE h2) hlit hd hdd hr
    rw [← hop] at hv
    exact done_val hR (by simp only [execOp, ho]; exact run_v hv) (RL.bool _ RL.nil)
  have hnil : EqTypes P [] := fun t h => by simp at h
  have hagg : ∀ {x' y' : X} {ks : List Nat} {neg : Bool}, cX x = some x' → cX y = some y' → flatTy P 6 t = some ks → P.eqGuardType P.depth t = false → op = (if neg then .neq else .eql) → aggT P t = some true →
      step (evX env) g gl nm (.eqa ks neg x' y') = some eff → DoneAt w0 O I0 g used nm w I ρ ((execOp a.eval o).run P w) eff := by
    intro x' y' ks neg h1 h2 hk hg hop ha hst
    simp only [step] at hst
    split at hst
    · rename_i cs ds e1 e2
      obtain ⟨r, hr, rfl⟩ := Option.map_eq_some_iff.1 hst
      have i1 := cX_sound hE h1
      have i2 := cX_sound hE h2
      rw [e1] at i1
      rw [e2] at i2
      have hv := snd_eqa (P := P) (x := x) (y := y) hop hk hg ha i1 i2 hr
      exact done_val hR (by simp only [execOp, ho]; exact run_v hv) (RL.bool _ RL.nil)
    · cases hst
  simp only [cOp] at hc
  split at hc
  · cases hc; exact hbin ‹_› ‹_› hst
  · cases hc; exact hbin ‹_› ‹_› hst
  · split at hc <;> cases hc
    · exact heq (kd := 0) (neg := false) ‹_› ‹_› rfl ‹_› hnil (by simp [kdOk]) (by simp) hst
    · exact heq (kd := 0) (neg := true) ‹_› ‹_› rfl ‹_› hnil (by simp [kdOk]) (by simp) hst
  · split at hc <;> cases hc
    · exact heq (kd := 1) (neg := false) ‹_› ‹_› rfl ‹_› hnil (by simp [kdOk]) (by simp) hst
    · exact heq (kd := 1) (neg := true) ‹_› ‹_› rfl ‹_› hnil (by simp [kdOk]) (by simp) hst
  · split at hc <;> cases hc
    · exact heq (kd := 2) (neg := false) ‹_› ‹_› rfl ‹_› hnil (by simp [kdOk]) (by simp) hst
    · exact heq (kd := 2) (neg := true) ‹_› ‹_› rfl ‹_› hnil (by simp [kdOk]) (by simp) hst
  · rename_i hu _ _
    split at hc <;> cases hc
    · exact hagg (neg := false) ‹_› ‹_› ‹_› ‹_› rfl (by simp [aggT, hu]) hst
    · exact hagg (neg := true) ‹_› ‹_› ‹_› ‹_› rfl (by simp [aggT, hu]) hst
  · rename_i hu _ _
    split at hc <;> cases hc
    · exact hagg (neg := false) ‹_› ‹_› ‹_› ‹_› rfl (by simp [aggT, hu]) hst
    · exact hagg (neg := true) ‹_› ‹_› ‹_› ‹_› rfl (by simp [aggT, hu]) hst
  · have hlit : (isLit x || isLit y) = true → (∃ c, x = .const c) ∨ (∃ c, y = .const c) := by
      intro h
      rcases Bool.or_eq_true_iff.1 h with h | h
      · left; cases x <;> simp_all [isLit]
      · right; cases y <;> simp_all [isLit]
    split at hc <;> cases hc
    · exact heq (kd := 3) (neg := false) ‹_› ‹_› rfl ‹_› hts (by simp [kdOk]) hlit hst
    · exact heq (kd := 3) (neg := true) ‹_› ‹_› rfl ‹_› hts (by simp [kdOk]) hlit hst
  · cases hc
theorem op_unOp {op : UnOp} {t : TypeId} {x : Operand} {d : DOp} (ho : o.op = .unOp op t x) (hc : cOp P eqs o.op = some d) (hst : step (evX env) g gl nm d = some eff) : DoneAt w0 O I0 g used nm w I ρ ((execOp a.eval o).run P w) eff := by
  rw [ho] at hc
  simp only [cOp, Option.map_eq_some_iff] at hc
  obtain ⟨y, hy, rfl⟩ := hc
  simp only [step, Option.map_eq_some_iff] at hst
  obtain ⟨z, hz, rfl⟩ := hst
  obtain ⟨v, hv, hvr⟩ := snd_un (P := P) (cX_sound hE hy) hz
  exact done_val hR (by simp only [execOp, ho]; exact run_v hv) hvr
theorem op_extract {x : Operand} {i : Nat} {d : DOp} (ho : o.op = .extract x i) (hc : cOp P eqs o.op = some d) (hst : step (evX env) g gl nm d = some eff) : DoneAt w0 O I0 g used nm w I ρ ((execOp a.eval o).run P w) eff := by
  rw [ho] at hc
  simp only [cOp, Option.map_eq_some_iff] at hc
  obtain ⟨y, hy, rfl⟩ := hc
  simp only [step] at hst
  split at hst
  · rename_i vs hvs
    split at hst
    · rename_i v hv
      cases hst
      have h1 := cX_sound hE hy
      rw [hvs] at h1
      obtain ⟨b, hb, hbr⟩ := inv_tup h1
      obtain ⟨u, hu, hur⟩ := hbr.get hv
      have hu' : b[i]? = some u := by simpa using hu
      exact done_val hR (by simp [execOp, ho, hb, Instr.extract, hu']) hur
    · cases hst
  · cases hst
theorem op_mki {t : TypeId} {x : Operand} {d : DOp} (ho : o.op = .makeInterface t x) (hc : cOp P eqs o.op = some d) (hst : step (evX env) g gl nm d = some eff) : DoneAt w0 O I0 g used nm w I ρ ((execOp a.eval o).run P w) eff := by
  rw [ho] at hc
  simp only [cOp] at hc
  split at hc
  · cases hc
  · rename_i dd x' hne hu hx
    cases hc
    simp only [step, Option.some.injEq] at hst
    subst hst
    refine done_val hR (v := .iface t (a.eval x)) ?_ (RL.iface _ _ _ (cX_sound hE hx) RL.nil)
    cases dd with
    | interface m => exact (hne m rfl).elim
    | _ => simp [execOp, ho, Instr.makeInterface, run_underlying hu]
  · cases hc
theorem op_nilCheck {x : Operand} {d : DOp} (ho : o.op = .nilCheck x) (hc : cOp P eqs o.op = some d) (hst : step (evX env) g gl nm d = some eff) : DoneAt w0 O I0 g used nm w I ρ ((execOp a.eval o).run P w) eff := by
  rw [ho] at hc
  simp only [cOp, Option.map_eq_some_iff] at hc
  obtain ⟨y, hy, rfl⟩ := hc
  have h1 := cX_sound hE hy
  simp only [step] at hst
  split at hst
  · rename_i hv; cases hst; rw [hv] at h1
    obtain ⟨b, s, hb, _⟩ := inv_hp h1
    exact done_val hR (by simp [execOp, ho, hb]) (hb ▸ h1)
  · rename_i hv; cases hst; rw [hv] at h1
    obtain ⟨b, s, _, hb, _⟩ := inv_pt h1
    exact done_val hR (by simp [execOp, ho, hb]) (hb ▸ h1)
  · rename_i hv; cases hst; rw [hv] at h1
    have hb := inv_gp h1
    exact done_val hR (by simp [execOp, ho, hb]) (hb ▸ h1)
  · rename_i hv; cases hst; rw [hv] at h1
    obtain ⟨b, hb, _⟩ := inv_fn h1
    exact done_val hR (by simp [execOp, ho, hb]) (hb ▸ h1)
  · cases hst
theorem op_load {t : TypeId} {x : Operand} {d : DOp} (ho : o.op = .load t x) (hc : cOp P eqs o.op = some d) (hst : step (evX env) g gl nm d = some eff) : DoneAt w0 O I0 g used nm w I ρ ((execOp a.eval o).run P w) eff := by
  rw [ho] at hc
  simp only [cOp] at hc
  split at hc
  · rename_i ag n x' h1 h2 h3
    cases hc
    have hv := cX_sound hE h3
    simp only [step] at hst
    split at hst
    · rename_i gi off hg
      rw [hg] at hv
      split at hst
      · rename_i cs hgl
        simp only [Option.map_eq_some_iff] at hst
        obtain ⟨z, hz, rfl⟩ := hst
        obtain ⟨u, hu, hur⟩ := snd_loadG hG h1 h2 hv hgl hz
        exact done_val hR (by simp only [execOp, ho]; exact run_v hu) hur
      · cases hst
    · simp only [Option.map_eq_some_iff] at hst
      obtain ⟨z, hz, rfl⟩ := hst
      obtain ⟨u, hu, hur⟩ := snd_load (gl := gl) hR h1 h2 hv hz
      exact done_val hR (by simp only [execOp, ho]; exact run_v hu) hur
  · cases hc
theorem op_store {t : TypeId} {x v : Operand} {d : DOp} (ho : o.op = .store t x v) (hc : cOp P eqs o.op = some d) (hst : step (evX env) g gl nm d = some eff) : DoneAt w0 O I0 g used nm w I ρ ((execOp a.eval o).run P w) eff := by
  rw [ho] at hc
  simp only [cOp] at hc
  split at hc
  · rename_i n x' v' h1 h2 h3
    cases hc
    simp only [step, Option.map_eq_some_iff] at hst
    obtain ⟨us, hus, rfl⟩ := hst
    obtain ⟨w', I', e1, e2, e3⟩ := snd_store hR h1 (cX_sound hE h2) (cX_sound hE h3) hus
    refine ⟨.skip, Go.undef, w', I', ρ, ?_, .inr ⟨rfl, rfl⟩, RL.undef _ RL.nil, e2.more _, e3⟩
    simp [execOp, ho, Sem.run_bind, e1]
  · cases hc
theorem op_field {t : TypeId} {x : Operand} {i : Nat} {d : DOp} (ho : o.op = .field t x i) (hc : cOp P eqs o.op = some d) (hst : step (evX env) g gl nm d = some eff) : DoneAt w0 O I0 g used nm w I ρ ((execOp a.eval o).run P w) eff := by
  rw [ho] at hc
  simp only [cOp] at hc
  split at hc
  · rename_i fs x' hu hx
    split at hc
    · rename_i f hf
      split at hc
      · rename_i n ag h1 h2
        cases hc
        simp only [step] at hst
        split at hst
        · rename_i cs hcs
          simp only [Option.map_eq_some_iff] at hst
          obtain ⟨z, hz, rfl⟩ := hst
          have hv := cX_sound hE hx
          rw [hcs] at hv
          obtain ⟨u, hu1, hur⟩ := snd_fld hu hf h1 h2 hv hz
          exact done_val hR (by simp only [execOp, ho]; exact run_v hu1) hur
        · cases hst
      · cases hc
    · cases hc
  · cases hc
theorem op_fieldAddr {t : TypeId} {x : Operand} {i : Nat} {d : DOp} (ho : o.op = .fieldAddr t x i) (hc : cOp P eqs o.op = some d) (hst : step (evX env) g gl nm d = some eff) : DoneAt w0 O I0 g used nm w I ρ ((execOp a.eval o).run P w) eff := by
  rw [ho] at hc
  simp only [cOp] at hc
  split at hc
  · rename_i fs x' hu hx
    split at hc
    · rename_i f hf
      split at hc
      · rename_i n h1
        split at hc
        · rename_i hn0
          cases hc
          have hv := cX_sound hE hx
          simp only [step, Option.map_eq_some_iff] at hst
          obtain ⟨z, hz, rfl⟩ := hst
          obtain ⟨u, hu1, hur⟩ := snd_faddr hu hf h1 hn0 hv hz
          exact done_val hR (by simp only [execOp, ho]; exact run_v hu1) hur
        · cases hc
      · cases hc
    · cases hc
  · cases hc
end
end Go.Dm
set_option linter.unusedSimpArgs false
set_option linter.unusedVariables false
set_option linter.unusedSectionVars false
namespace Go.Dm

section
variable {P : Program} {w0 w : World} {O I0 I : Nat → Prop} {ρ : Rho} {g : Nat → Option Obj} {used : Nat → Prop} {nm : Nat} {gl : Nat → Option (List V)} {a : Act} {env : Nat → V} {o : Oper} {eff : Eff} {eqs : List TypeId}
variable (hR : Rel w0 O I0 I ρ g used w) (hn : ¬ used nm) (hE : EnvR w I ρ a env) (hG : GlR w I gl) (hts : EqTypes P eqs)
include hR hn hE hG hts

theorem op_alloc {t : TypeId} {d : DOp} (ho : o.op = .alloc t) (hc : cOp P eqs o.op = some d) (hst : step (evX env) g gl nm d = some eff) : DoneAt w0 O I0 g used nm w I ρ ((execOp a.eval o).run P w) eff := by
  rw [ho] at hc
  simp only [cOp, Option.map_eq_some_iff] at hc
  obtain ⟨ob, hob, rfl⟩ := hc
  simp only [step, Option.some.injEq] at hst
  subst hst
  obtain ⟨v, w', ρ', h1, h2, h3, h4⟩ := snd_alloc hR hn hob
  have := done_leaves (P := P) (nm := nm) (g := g) (used := used) (O := O) (I0 := I0) (w0 := w0) (eff := ⟨.hp nm 0 0, some ob, []⟩) (s := Instr.alloc t true (.tuple #[])) ⟨v, w', I, ρ', h1, h2, h3, h4⟩
  simpa only [execOp, ho] using this

theorem op_box {t : TypeId} {x : Operand} {d : DOp} (ho : o.op = .box t x) (hc : cOp P eqs o.op = some d) (hst : step (evX env) g gl nm d = some eff) : DoneAt w0 O I0 g used nm w I ρ ((execOp a.eval o).run P w) eff := by
  rw [ho] at hc
  simp only [cOp] at hc
  split at hc
  · rename_i s x' h1 h2
    cases hc
    have hv := cX_sound hE h2
    simp only [step] at hst
    split at hst
    · rename_i h0
      split at hst
      · rename_i hs
        cases hst
        have := done_leaves (P := P) (nm := nm) (g := g) (used := used) (O := O) (I0 := I0) (w0 := w0) (eff := ⟨.hp nm 0 0, some (.box (evX env x').cells), []⟩) (s := Instr.box t (a.eval x)) (snd_box0 hR hn hv hs)
        simpa only [execOp, ho] using this
      · cases hst
    · rename_i h0
      split at hst
      · rename_i y ks hd
        cases hst
        have := done_leaves (P := P) (nm := nm) (g := g) (used := used) (O := O) (I0 := I0) (w0 := w0) (eff := ⟨.hp nm 0 0, some (.row (rowOf s y.cells) s), kills ks⟩) (s := Instr.box t (a.eval x)) (snd_boxS hR hn hv (by omega) hd)
        simpa only [execOp, ho] using this
      · cases hst
  · cases hc

theorem op_build {t : TypeId} {parts : Array (Nat × Operand)} {d : DOp} (ho : o.op = .build t parts) (hc : cOp P eqs o.op = some d) (hst : step (evX env) g gl nm d = some eff) : DoneAt w0 O I0 g used nm w I ρ ((execOp a.eval o).run P w) eff := by
  rw [ho] at hc
  simp only [cOp] at hc
  split at hc
  · rename_i fs z hu hz
    split at hc
    · rename_i pl hpl
      simp only [Option.map_eq_some_iff] at hc
      obtain ⟨ps, hps, rfl⟩ := hc
      simp only [step, Option.map_eq_some_iff] at hst
      obtain ⟨cs, hcs, rfl⟩ := hst
      obtain ⟨v, hv, hvr⟩ := snd_buildS hE hu hz hpl hps hcs
      exact done_val hR (by simp only [execOp, ho]; exact run_v hv) hvr
    · cases hc
  · rename_i n e z hu hz
    split at hc
    · rename_i s hs
      simp only [Option.map_eq_some_iff] at hc
      obtain ⟨ps, hps, rfl⟩ := hc
      simp only [step, Option.map_eq_some_iff] at hst
      obtain ⟨cs, hcs, rfl⟩ := hst
      obtain ⟨v, hv, hvr⟩ := snd_buildA hE hu hz hs hps hcs
      exact done_val hR (by simp only [execOp, ho]; exact run_v hv) hvr
    · cases hc
  · cases hc

theorem op_buildSlice {t : TypeId} {n : Nat} {parts : Array (Nat × Operand)} {d : DOp} (ho : o.op = .buildSlice t n parts) (hc : cOp P eqs o.op = some d) (hst : step (evX env) g gl nm d = some eff) : DoneAt w0 O I0 g used nm w I ρ ((execOp a.eval o).run P w) eff := by
  rw [ho] at hc
  simp only [cOp] at hc
  split at hc
  · rename_i e hu
    split at hc
    · rename_i s b zv z ps hi hz hps
      split at hc
      · rename_i hh
        obtain ⟨h0, hlim, hzw, hzs⟩ := hh
        cases hc
        simp only [step] at hst
        split at hst
        · rename_i rs ks hd
          split at hst
          · rename_i hall
            rw [List.length_replicate] at hall hst
            obtain ⟨v, w', I', ρ', h1, h2, h3, h4, h5⟩ := snd_bsl hR hn hE hu hi hz h0 hlim hps hd hzs hzw hall
            have hex : (execOp a.eval o).run P w = .ok (.value v) w' := by
              simp only [execOp, ho]; exact run_v h1
            split at hst
            · rename_i hnil
              cases hst
              have hn0 : n = 0 := by simpa using hnil
              subst hn0
              refine ⟨_, v, w', I', ρ', hex, .inl rfl, by rw [h4]; exact RL.nils _ RL.nil, ?_, h3⟩
              have := h2.drop nm
              have he : upd (upd (applyU (kills ks) g) nm (some (.row (setParts rs (List.replicate 0 z)) s))) nm none = applyU (kills ks) g := by
                funext k
                by_cases e : k = nm
                · subst e
                  rw [upd_same, applyU_kills]
                  split
                  · rfl
                  · exact (hR.none_of hn).symm
                · rw [upd_ne _ _ e, upd_ne _ _ e]
              rw [he] at this
              exact this
            · cases hst
              exact ⟨_, v, w', I', ρ', hex, .inl rfl, h5, h2, h3⟩
          · cases hst
        · cases hst
      · cases hc
    · cases hc
  · cases hc

theorem op_convert {t u : TypeId} {x : Operand} {d : DOp} (ho : o.op = .convert t u x) (hc : cOp P eqs o.op = some d) (hst : step (evX env) g gl nm d = some eff) : DoneAt w0 O I0 g used nm w I ρ ((execOp a.eval o).run P w) eff := by
  rw [ho] at hc
  simp only [cOp] at hc
  cases hx : cX x with
  | none => simp [hx] at hc
  | some x' =>
    have hv := cX_sound hE hx
    simp only [hx, Option.bind_some, cConv] at hc
    split at hc
    · rename_i k k' h1 h2
      cases hc
      simp only [step] at hst
      split at hst
      · rename_i k2 n hk
        cases hst
        rw [hk] at hv
        have hi := inv_int hv
        exact done_val hR (v := .int k' (k'.wrap n)) (by simp [execOp, ho, hi, convert, run_underlying h1, run_underlying h2, Conv.intToInt]) (RL.int _ _ RL.nil)
      · cases hst
    · rename_i h1 h2
      cases hc
      simp only [step] at hst
      split at hst
      · rename_i l hl
        cases hst
        rw [hl] at hv
        have hi := inv_str hv
        exact done_val hR (v := .string ⟨l.toArray⟩) (by simp [execOp, ho, hi, convert, run_underlying h1, run_underlying h2]) (RL.str _ RL.nil)
      · cases hst
    · rename_i e h1 h2
      split at hc
      · rename_i he
        cases hc
        have he' : P.underlying e = some (.int .u8) := by
          revert he; cases P.underlying e with
          | none => simp
          | some dd => cases dd with
            | int k => cases k <;> simp
            | _ => simp
        simp only [step] at hst
        split at hst
        · rename_i l hl
          split at hst
          · rename_i hroom
            cases hst
            rw [hl] at hv
            have := done_leaves (P := P) (nm := nm) (g := g) (used := used) (O := O) (I0 := I0) (w0 := w0) (eff := ⟨.hs nm 0 l.length, some (.row (bytesV l) 1), []⟩) (s := convert t u (a.eval x)) (snd_s2b hR hn h1 h2 he' hv hroom)
            simpa only [execOp, ho] using this
          · cases hst
        · cases hst
      · cases hc
    · rename_i e h1 h2
      split at hc
      · rename_i he
        cases hc
        have he' : P.underlying e = some (.int .u8) := by
          revert he; cases P.underlying e with
          | none => simp
          | some dd => cases dd with
            | int k => cases k <;> simp
            | _ => simp
        simp only [step] at hst
        split at hst
        · rename_i es hes
          simp only [Option.map_eq_some_iff] at hst
          obtain ⟨l, hl, rfl⟩ := hst
          obtain ⟨v, hv1, hvr⟩ := snd_b2s hR h1 he' h2 hv hes hl
          exact done_val hR (by simp only [execOp, ho]; exact run_v hv1) hvr
        · cases hst
      · cases hc
    · cases hc

theorem op_makeSlice {t : TypeId} {x y : Operand} {d : DOp} (ho : o.op = .makeSlice t x y) (hc : cOp P eqs o.op = some d) (hst : step (evX env) g gl nm d = some eff) : DoneAt w0 O I0 g used nm w I ρ ((execOp a.eval o).run P w) eff := by
  rw [ho] at hc
  simp only [cOp] at hc
  split at hc
  · rename_i e hu
    split at hc
    · rename_i s b zv z x' y' hi hz hx hy
      split at hc
      · rename_i hh
        obtain ⟨h0, hb0, hzw, hzs⟩ := hh
        cases hc
        simp only [step] at hst
        split at hst
        · rename_i k1 l k2 c hl hcc
          split at hst
          · rename_i hh
            obtain ⟨g1, g2, g3⟩ := hh
            cases hst
            have v1 := cX_sound hE hx
            have v2 := cX_sound hE hy
            rw [hl] at v1; rw [hcc] at v2
            have i1 := inv_int v1
            have i2 := inv_int v2
            obtain ⟨l', rfl⟩ := Int.eq_ofNat_of_zero_le g1
            obtain ⟨c', rfl⟩ := Int.eq_ofNat_of_zero_le (Int.le_trans g1 g2)
            simp only [Int.toNat_natCast] at g3
            have hc63 : c' ≤ 9223372036854775807 := by
              have := Nat.le_trans (Nat.le_mul_of_pos_right c' hb0) g3
              unfold roomMake at this
              omega
            have := done_leaves (P := P) (nm := nm) (g := g) (used := used) (O := O) (I0 := I0) (w0 := w0) (eff := ⟨.hs nm 0 l', some (.row (List.replicate c' z) s), []⟩) (s := Instr.makeSlice t (a.eval x) (a.eval y))
              (by rw [i1, i2]; exact snd_mksl hR hn hu hi hz h0 (by omega) g3 hc63 hzw hzs)
            simpa only [execOp, ho, Int.toNat_natCast] using this
          · cases hst
        · cases hst
      · cases hc
    · cases hc
  · cases hc

theorem bound_lo {lo : Option Operand} {lo' : Option X} {n : Nat} (h : cXo lo = some lo') (hb : bound 0 (evX env) lo' = some n) : LoR (lo.map a.eval) n := by
  cases lo with
  | none => simp [cXo] at h; subst h; simp [bound] at hb; exact .inl ⟨rfl, hb.symm⟩
  | some x =>
    simp only [cXo, Option.map_eq_some_iff] at h
    obtain ⟨y, hy, rfl⟩ := h
    simp only [bound] at hb
    split at hb
    · rename_i k m hm
      have := cX_sound hE hy
      rw [hm] at this
      have hi := inv_int this
      unfold natOf at hb
      split at hb
      · cases hb
        right
        exact ⟨k, by simp [hi]; omega⟩
      · cases hb
    · cases hb
theorem bound_hi {hi : Option Operand} {hi' : Option X} {d n : Nat} (h : cXo hi = some hi') (hb : bound d (evX env) hi' = some n) : ∃ b : Option Nat, HiR (hi.map a.eval) b ∧ b.getD d = n := by
  cases hi with
  | none => simp [cXo] at h; subst h; simp [bound] at hb; exact ⟨none, .inl ⟨rfl, rfl⟩, by simpa using hb⟩
  | some x =>
    simp only [cXo, Option.map_eq_some_iff] at h
    obtain ⟨y, hy, rfl⟩ := h
    simp only [bound] at hb
    split at hb
    · rename_i k m hm
      have := cX_sound hE hy
      rw [hm] at this
      have hi := inv_int this
      unfold natOf at hb
      split at hb
      · cases hb
        exact ⟨some m.toNat, .inr ⟨k, m.toNat, by simp [hi]; omega, rfl⟩, rfl⟩
      · cases hb
    · cases hb
end
end Go.Dm
set_option linter.unusedSimpArgs false
set_option linter.unusedVariables false
set_option linter.unusedSectionVars false
namespace Go.Dm

section
variable {P : Program} {w0 w : World} {O I0 I : Nat → Prop} {ρ : Rho} {g : Nat → Option Obj} {used : Nat → Prop} {nm : Nat} {gl : Nat → Option (List V)} {a : Act} {env : Nat → V} {o : Oper} {eff : Eff} {eqs : List TypeId}
variable (hR : Rel w0 O I0 I ρ g used w) (hn : ¬ used nm) (hE : EnvR w I ρ a env) (hG : GlR w I gl) (hts : EqTypes P eqs)
include hR hn hE hG hts

theorem int_of {x : Operand} {x' : X} {k : IntKind} {n : Int} (hx : cX x = some x') (hk : evX env x' = .int k n) : a.eval x = .int k n := by
  have := cX_sound hE hx
  rw [hk] at this
  exact inv_int this

theorem op_slcS {t : TypeId} {x : Operand} {lo hi : Option Operand} {x' : X} {lo' hi' : Option X} (ho : o.op = .slice t x lo hi none) (hu : P.underlying t = some .string) (hx : cX x = some x') (hlo : cXo lo = some lo') (hhi : cXo hi = some hi')
    (hst : step (evX env) g gl nm (.slcS x' lo' hi') = some eff) : DoneAt w0 O I0 g used nm w I ρ ((execOp a.eval o).run P w) eff := by
  simp only [step] at hst
  split at hst
  · rename_i l n hl hb1
    split at hst
    · rename_i m hb2
      split at hst
      · rename_i hh
        obtain ⟨h1, h2⟩ := hh
        cases hst
        have hv := cX_sound hE hx
        rw [hl] at hv
        have b1 := bound_lo hR hn hE hG hts hlo hb1
        obtain ⟨b, b2, rfl⟩ := bound_hi hR hn hE hG hts hhi hb2
        obtain ⟨u, hu1, hur⟩ := snd_slcS hu hv b1 b2 h1 h2
        exact done_val hR (by simp only [execOp, ho]; exact run_v hu1) hur
      · cases hst
    · cases hst
  · cases hst

theorem op_slcL {t e : TypeId} {s : Nat} {x : Operand} {lo hi : Option Operand} {x' : X} {lo' hi' : Option X} (ho : o.op = .slice t x lo hi none) (hu : P.underlying t = some (.slice e)) (hs : sizT P e = some s) (hx : cX x = some x') (hlo : cXo lo = some lo') (hhi : cXo hi = some hi')
    (hst : step (evX env) g gl nm (.slcL s x' lo' hi') = some eff) : DoneAt w0 O I0 g used nm w I ρ ((execOp a.eval o).run P w) eff := by
  have hv := cX_sound hE hx
  have key : ∀ n b z, LoR (lo.map a.eval) n → HiR (hi.map a.eval) b → slcLV g s (evX env x') n b = some z → eff = Eff.val z → DoneAt w0 O I0 g used nm w I ρ ((execOp a.eval o).run P w) eff := by
    intro n b z b1 b2 hz he
    subst he
    obtain ⟨u, hu1, hur⟩ := snd_slcL hR hu hs hv b1 b2 hz
    exact done_val hR (by simp only [execOp, ho]; exact run_v hu1) hur
  simp only [step] at hst
  split at hst
  · rename_i n hb1
    simp only [Option.map_eq_some_iff] at hst
    obtain ⟨z, hz, rfl⟩ := hst
    have hhn : hi = none := by cases hi with
      | none => rfl
      | some h => simp [cXo] at hhi
    subst hhn
    exact key n none z (bound_lo hR hn hE hG hts hlo hb1) (.inl ⟨rfl, rfl⟩) hz rfl
  · rename_i n y hb1
    cases hi with
    | none => simp [cXo] at hhi
    | some h =>
      simp only [cXo, Option.map_eq_some_iff, Option.some.injEq] at hhi
      obtain ⟨y', hy, rfl⟩ := hhi
      split at hst
      · rename_i k m hm
        split at hst
        · rename_i h0
          simp only [Option.map_eq_some_iff] at hst
          obtain ⟨z, hz, rfl⟩ := hst
          have := int_of hR hn hE hG hts hy hm
          exact key n (some m.toNat) z (bound_lo hR hn hE hG hts hlo hb1) (.inr ⟨k, m.toNat, by simp [this]; omega, rfl⟩) hz rfl
        · cases hst
      · cases hst
  · cases hst

theorem snd_slcA {n s : Nat} {v : Value} {p x : V} {m : Nat} {b : Option Nat} {lo hi : Option Value} (hv : R w I ρ v p) (hlo : LoR lo m) (hhi : HiR hi b) (hx : slcAV g n s m b p = some x) :
    ∃ ad u, v = .pointer (some ad) ∧ (Instr.sliceBounds false n n lo hi none).run P w = .ok (m, b.getD n, n) w ∧
      u = .slice (some (if n = m then ad else ad.add (m * s))) (b.getD n - m) (n - m) ∧ R w I ρ u x := by
  unfold slcAV at hx
  split at hx
  · rename_i h i f
    split at hx
    · rename_i es s' hg
      split at hx
      · rename_i hh
        obtain ⟨rfl, rfl, hs', hl, h1, h2⟩ := hh
        cases hx
        obtain ⟨bl, s1, rfl, hr⟩ := inv_hp hv
        obtain ⟨b2, s2, q1, q2, q3, q4, q5, q0, cs, ec, fr, q6, q7, q8⟩ := hR.obj h _ hg
        rw [hr] at q1; cases q1
        have hss : s' = s1 := q4
        refine ⟨_, _, rfl, run_bounds hlo hhi h1 h2, rfl, ?_⟩
        have hlen := cellsL_length q5
        have hql := q8.length
        have hcs : csize w bl = cs.size := by unfold csize; rw [q6]
        by_cases hnm : n = m
        · have e1 : b.getD n - m = 0 := by omega
          have e2 : n - m = 0 := by omega
          rw [e1, e2]
          exact RL.hs0 _ _ _ _ _ hr RL.nil
        · rw [if_neg hnm]
          have e3 : (⟨bl, 0 * s1 + 0, none⟩ : Addr).add (m * s) = ⟨bl, m * s1, none⟩ := by rw [Addr.add_lit, ← hs', hss]; simp
          rw [e3]
          refine RL.hs h m (b.getD n - m) bl s1 (n - m) hr (by omega) ?_ RL.nil
          rw [show m + (n - m) = n by omega, hcs, ← hl, ← hlen]
          simp at hql
          omega
      · cases hx
    · cases hx
  · rename_i cs
    split at hx
    · rename_i hh
      obtain ⟨rfl, hle, h1, h2⟩ := hh
      cases hx
      obtain ⟨bl, off, vs, rfl, h0, h3, h4, h5⟩ := inv_pt hv
      refine ⟨_, _, rfl, run_bounds hlo hhi h1 h2, rfl, ?_⟩
      have hlen : ((cs.take (b.getD n)).drop m).length = b.getD n - m := by simp; omega
      have hfl : flatL ((cs.take (b.getD n)).drop m) := fun y hy => h0 y (List.mem_of_mem_take (List.mem_of_mem_drop hy))
      have hone : ∀ xs : List V, flatL xs → cellsL xs = xs ∧ ∀ e ∈ xs, e.width = 1 := by
        intro xs
        induction xs with
        | nil => intro _; exact ⟨rfl, by simp⟩
        | cons x xs ih =>
          intro h
          have h1 := h x (by simp)
          obtain ⟨i1, i2⟩ := ih fun y hy => h y (by simp [hy])
          refine ⟨?_, ?_⟩
          · rw [cellsL_cons, i1]; cases x <;> simp_all [V.one, V.cells]
          · intro e he
            rcases List.mem_cons.1 he with rfl | he
            · cases e <;> simp_all [V.one, V.width]
            · exact i2 e he
      obtain ⟨c1, c2⟩ := hone _ hfl
      by_cases hnm : n = m
      · have e1 : b.getD n - m = 0 := by omega
        have e2 : (cs.take (b.getD n)).drop m = [] := List.eq_nil_of_length_eq_zero (by rw [hlen, e1])
        rw [e1, e2]
        exact RL.sl0 _ _ _ RL.nil
      · rw [if_neg hnm, Addr.add_lit, Nat.mul_one]
        have := RL.sl1 (w := w) (I := I) (ρ := ρ) bl (off + m) (n - m) 1 ((cs.take (b.getD n)).drop m) ((vs.take (b.getD n)).drop m) (by rw [hlen]; omega) c2 (by rw [c1]; exact hfl) h3
          ((At.take h4 _).drop _) (by rw [c1]; exact (h5.take _).drop _) RL.nil
        rwa [hlen] at this
    · cases hx
  · cases hx

theorem op_slcA {t : TypeId} {n s : Nat} {x : Operand} {lo hi : Option Operand} {x' : X} {lo' hi' : Option X} (ho : o.op = .slice t x lo hi none)
    (hrun : ∀ ad m b, (Instr.sliceBounds false n n (lo.map a.eval) (hi.map a.eval) none).run P w = .ok (m, b, n) w → (Instr.sliceAt t (.pointer (some ad)) (lo.map a.eval) (hi.map a.eval) none).run P w = .ok (.slice (some (if n = m then ad else ad.add (m * s))) (b - m) (n - m)) w)
    (hx : cX x = some x') (hlo : cXo lo = some lo') (hhi : cXo hi = some hi')
    (hst : step (evX env) g gl nm (.slcA n s x' lo' hi') = some eff) : DoneAt w0 O I0 g used nm w I ρ ((execOp a.eval o).run P w) eff := by
  have hv := cX_sound hE hx
  have key : ∀ m b z, LoR (lo.map a.eval) m → HiR (hi.map a.eval) b → slcAV g n s m b (evX env x') = some z → eff = Eff.val z → DoneAt w0 O I0 g used nm w I ρ ((execOp a.eval o).run P w) eff := by
    intro m b z b1 b2 hz he
    subst he
    obtain ⟨ad, u, e1, e2, e3, e4⟩ := snd_slcA hR hn hE hG hts (P := P) hv b1 b2 hz
    have := hrun ad m (b.getD n) e2
    rw [← e1, ← e3] at this
    exact done_val hR (by simp only [execOp, ho]; exact run_v this) e4
  simp only [step] at hst
  split at hst
  · rename_i m hb1
    simp only [Option.map_eq_some_iff] at hst
    obtain ⟨z, hz, rfl⟩ := hst
    have hhn : hi = none := by cases hi with
      | none => rfl
      | some h => simp [cXo] at hhi
    subst hhn
    exact key m none z (bound_lo hR hn hE hG hts hlo hb1) (.inl ⟨rfl, rfl⟩) hz rfl
  · rename_i m y hb1
    cases hi with
    | none => simp [cXo] at hhi
    | some h =>
      simp only [cXo, Option.map_eq_some_iff, Option.some.injEq] at hhi
      obtain ⟨y', hy, rfl⟩ := hhi
      split at hst
      · rename_i k q hq
        split at hst
        · rename_i h0
          simp only [Option.map_eq_some_iff] at hst
          obtain ⟨z, hz, rfl⟩ := hst
          have := int_of hR hn hE hG hts hy hq
          exact key m (some q.toNat) z (bound_lo hR hn hE hG hts hlo hb1) (.inr ⟨k, q.toNat, by simp [this]; omega, rfl⟩) hz rfl
        · cases hst
      · cases hst
  · cases hst

theorem op_slice {t : TypeId} {x : Operand} {lo hi mx : Option Operand} {d : DOp} (ho : o.op = .slice t x lo hi mx) (hc : cOp P eqs o.op = some d) (hst : step (evX env) g gl nm d = some eff) : DoneAt w0 O I0 g used nm w I ρ ((execOp a.eval o).run P w) eff := by
  rw [ho] at hc
  cases mx with
  | some m => simp [cOp] at hc
  | none =>
    simp only [cOp] at hc
    split at hc
    · cases hc
      exact op_slcS hR hn hE hG hts ho ‹_› ‹_› ‹_› ‹_› hst
    · simp only [Option.map_eq_some_iff] at hc
      obtain ⟨s, hs, rfl⟩ := hc
      exact op_slcL hR hn hE hG hts ho ‹_› hs ‹_› ‹_› ‹_› hst
    · rename_i n e x' lo' hi' hu hx hlo hhi
      simp only [Option.map_eq_some_iff] at hc
      obtain ⟨s, hs, rfl⟩ := hc
      refine op_slcA hR hn hE hG hts ho (fun ad m b hb => ?_) hx hlo hhi hst
      simp [Instr.sliceAt, Sem.run_bind, run_underlying hu, Instr.sureAddr, hb, run_sizeOf hs]
    · rename_i ar x' lo' hi' hu hx hlo hhi
      split at hc
      · rename_i n e hu2
        simp only [Option.map_eq_some_iff] at hc
        obtain ⟨s, hs, rfl⟩ := hc
        refine op_slcA hR hn hE hG hts ho (fun ad m b hb => ?_) hx hlo hhi hst
        simp [Instr.sliceAt, Instr.slice, Sem.run_bind, run_underlying hu, run_underlying hu2, asAddr, hb, run_sizeOf hs]
      · cases hc
    · cases hc

theorem op_indexAddr {t : TypeId} {x y : Operand} {d : DOp} (ho : o.op = .indexAddr t x y) (hc : cOp P eqs o.op = some d) (hst : step (evX env) g gl nm d = some eff) : DoneAt w0 O I0 g used nm w I ρ ((execOp a.eval o).run P w) eff := by
  rw [ho] at hc
  simp only [cOp] at hc
  split at hc
  · rename_i e x' y' hu hx hy
    cases hs : sizT P e with
    | none => simp [hs] at hc
    | some s =>
      simp only [hs, Option.bind_some] at hc
      split at hc
      · rename_i hs0
        cases hc
        simp only [step] at hst
        split at hst
        · rename_i k n hk
          split at hst
          · rename_i h0
            simp only [Option.map_eq_some_iff] at hst
            obtain ⟨z, hz, rfl⟩ := hst
            have hi := int_of hR hn hE hG hts hy hk
            obtain ⟨m, rfl⟩ := Int.eq_ofNat_of_zero_le h0
            simp only [Int.toNat_natCast] at hz
            obtain ⟨u, hu1, hur⟩ := snd_iaddrL (k := k) hR hu hs hs0 (cX_sound hE hx) hz
            rw [← hi] at hu1
            exact done_val hR (by simp only [execOp, ho]; exact run_v hu1) hur
          · cases hst
        · cases hst
      · cases hc
  · rename_i n' e x' y' hu hx hy
    cases hs : sizT P e with
    | none => simp [hs] at hc
    | some s =>
      simp only [hs, Option.bind_some] at hc
      split at hc
      · rename_i hs0
        cases hc
        simp only [step] at hst
        split at hst
        · rename_i k n hk
          split at hst
          · rename_i h0
            simp only [Option.map_eq_some_iff] at hst
            obtain ⟨z, hz, rfl⟩ := hst
            have hi := int_of hR hn hE hG hts hy hk
            obtain ⟨m, rfl⟩ := Int.eq_ofNat_of_zero_le h0
            simp only [Int.toNat_natCast] at hz
            obtain ⟨u, hu1, hur⟩ := snd_iaddrA (k := k) hR hu hs hs0 (cX_sound hE hx) hz
            rw [← hi] at hu1
            exact done_val hR (by simp only [execOp, ho]; exact run_v hu1) hur
          · cases hst
        · cases hst
      · cases hc
  · cases hc

theorem op_index {t : TypeId} {x y : Operand} {d : DOp} (ho : o.op = .index t x y) (hc : cOp P eqs o.op = some d) (hst : step (evX env) g gl nm d = some eff) : DoneAt w0 O I0 g used nm w I ρ ((execOp a.eval o).run P w) eff := by
  rw [ho] at hc
  simp only [cOp] at hc
  split at hc
  · rename_i x' y' hu hx hy
    cases hc
    simp only [step] at hst
    split at hst
    · rename_i l k n hl hk
      split at hst
      · rename_i h0
        split at hst
        · rename_i b hb
          cases hst
          have hi := int_of hR hn hE hG hts hy hk
          have hv := cX_sound hE hx
          rw [hl] at hv
          obtain ⟨m, rfl⟩ := Int.eq_ofNat_of_zero_le h0
          simp only [Int.toNat_natCast] at hb
          obtain ⟨u, hu1, hur⟩ := snd_idxS (k := k) hu hv hb
          rw [← hi] at hu1
          exact done_val hR (by simp only [execOp, ho]; exact run_v hu1) hur
        · cases hst
      · cases hst
    · cases hst
  · rename_i n' e x' y' hu hx hy
    split at hc
    · rename_i s ag hs ha
      cases hc
      simp only [step] at hst
      split at hst
      · rename_i cs k n hl hk
        split at hst
        · rename_i hh
          obtain ⟨h0, h1⟩ := hh
          simp only [Option.map_eq_some_iff] at hst
          obtain ⟨z, hz, rfl⟩ := hst
          have hi := int_of hR hn hE hG hts hy hk
          have hv := cX_sound hE hx
          rw [hl] at hv
          obtain ⟨m, rfl⟩ := Int.eq_ofNat_of_zero_le h0
          simp only [Int.toNat_natCast] at hz
          obtain ⟨u, hu1, hur⟩ := snd_idxA (k := k) hu hs ha hv (by omega) hz
          rw [← hi] at hu1
          exact done_val hR (by simp only [execOp, ho]; exact run_v hu1) hur
        · cases hst
      · cases hst
    · cases hc
  · cases hc
end
end Go.Dm
