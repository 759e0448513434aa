/-
  DERIVED. GIVEN WITH THE SEED: THE CARDS: each row of YtllfbfkjbhpfeaaGreatDoorRows.lean that lists a variable, with what it lists TIED to the program's text (the seventh form; the later family's looks); each row that meets fmt, with fmt's text TOLD by the authors' own Lean function (tested against real Go, not proved from fmt's source: count such statements apart). THE CARD IS WHAT COUNTS. Prove the row's statement (the work); the ties are given (YtllfbfkjbhpfeaaGreatDoorTie.lean); close each card by the builder's one call (the guide's Derived/Test/ToyasCard.lean, 'card_holds'). Laid BY PROGRAM, IN A SANDBOX (cutbox-door.mjs). By AI agents, Wed Nov 11 2026. No macro, syntax, notation, axiom, sorry.
-/
import Derived.Test.YtllfbfkjbhpfeaaGreatDoorRows
import GoSem.ClaimSeven
namespace Go.Proofs.YtllfbfkjbhpfeaaGreatDoor
namespace Rows

/-- THE TIED CARD OF 'seneschallaw28.TgsAsks'. -/
def tgsAsksCard : Claim7 := { stood := { row := tgsAsksRow, standIns := [], harness := (true, "56a2f719a0766cf43bce9bc4cb39a934e1e421da2e03314f7cd0efb59bfa2f1b"), looks := true }, kinds := [], alts := [], laidByText := true, laidKinds := [.data, .data, .data, .data, .handle], laidTests := true, laidLooks := .later }
def TgsAsksCardSaid : Prop := Claim7.holds Tryz.pinned (.plain (OpenSpec.ofChange tgsAsksSpec)) tgsAsksCard

/-- THE TIED CARD OF 'seneschallaw28.TgsGrants'. -/
def tgsGrantsCard : Claim7 := { stood := { row := tgsGrantsRow, standIns := [], harness := (true, "56a2f719a0766cf43bce9bc4cb39a934e1e421da2e03314f7cd0efb59bfa2f1b"), looks := true }, kinds := [], alts := [], laidByText := true, laidKinds := [.data, .data, .data, .data, .handle], laidTests := true, laidLooks := .later }
def TgsGrantsCardSaid : Prop := Claim7.holds Tryz.pinned (.plain (OpenSpec.ofChange tgsGrantsSpec)) tgsGrantsCard

/-- THE TIED CARD OF 'seneschallaw28.TgsWithin'. -/
def tgsWithinCard : Claim7 := { stood := { row := tgsWithinRow, standIns := [], harness := (true, "56a2f719a0766cf43bce9bc4cb39a934e1e421da2e03314f7cd0efb59bfa2f1b"), looks := true }, kinds := [], alts := [], laidByText := true, laidKinds := [.data, .data, .data, .data, .handle], laidTests := true, laidLooks := .later }
def TgsWithinCardSaid : Prop := Claim7.holds Tryz.pinned (.plain (OpenSpec.ofChange tgsWithinSpec)) tgsWithinCard

/-- THE TIED CARD OF 'seneschallaw28.TgsRenews'. -/
def tgsRenewsCard : Claim7 := { stood := { row := tgsRenewsRow, standIns := [], harness := (true, "56a2f719a0766cf43bce9bc4cb39a934e1e421da2e03314f7cd0efb59bfa2f1b"), looks := true }, kinds := [], alts := [], laidByText := true, laidKinds := [.data, .data, .data, .data, .handle], laidTests := true, laidLooks := .later }
def TgsRenewsCardSaid : Prop := Claim7.holds Tryz.pinned (.plain (OpenSpec.ofChange tgsRenewsSpec)) tgsRenewsCard

/-- THE TIED CARD OF 'seneschallaw28.TgsOnce'. -/
def tgsOnceCard : Claim7 := { stood := { row := tgsOnceRow, standIns := [], harness := (true, "56a2f719a0766cf43bce9bc4cb39a934e1e421da2e03314f7cd0efb59bfa2f1b"), looks := true }, kinds := [], alts := [], laidByText := true, laidKinds := [.data, .data, .data, .data, .handle], laidTests := true, laidLooks := .later }
def TgsOnceCardSaid : Prop := Claim7.holds Tryz.pinned (.plain (OpenSpec.ofChange tgsOnceSpec)) tgsOnceCard

/-- THE TIED CARD OF 'seneschallaw28.TgsVoid'. -/
def tgsVoidCard : Claim7 := { stood := { row := tgsVoidRow, standIns := [], harness := (true, "56a2f719a0766cf43bce9bc4cb39a934e1e421da2e03314f7cd0efb59bfa2f1b"), looks := true }, kinds := [], alts := [], laidByText := true, laidKinds := [.data, .data, .data, .data, .handle], laidTests := true, laidLooks := .later }
def TgsVoidCardSaid : Prop := Claim7.holds Tryz.pinned (.plain (OpenSpec.ofChange tgsVoidSpec)) tgsVoidCard

/-- THE SECOND FORM's CARD OF 'seneschallaw28.TgsAsks'. -/
def tgsAsksUptoCard : Claim7 := { stood := { row := tgsAsksUptoRow, standIns := [], harness := (true, "56a2f719a0766cf43bce9bc4cb39a934e1e421da2e03314f7cd0efb59bfa2f1b"), looks := true }, kinds := [], alts := [], laidByText := true, laidKinds := [.data, .data, .data, .data, .handle], laidTests := true, laidLooks := .later }
def TgsAsksUptoCardSaid : Prop := Claim7.holds Tryz.pinned (.plain (OpenSpec.upto tgsAsksSpec)) tgsAsksUptoCard

/-- THE SECOND FORM's CARD OF 'seneschallaw28.TgsGrants'. -/
def tgsGrantsUptoCard : Claim7 := { stood := { row := tgsGrantsUptoRow, standIns := [], harness := (true, "56a2f719a0766cf43bce9bc4cb39a934e1e421da2e03314f7cd0efb59bfa2f1b"), looks := true }, kinds := [], alts := [], laidByText := true, laidKinds := [.data, .data, .data, .data, .handle], laidTests := true, laidLooks := .later }
def TgsGrantsUptoCardSaid : Prop := Claim7.holds Tryz.pinned (.plain (OpenSpec.upto tgsGrantsSpec)) tgsGrantsUptoCard

/-- THE SECOND FORM's CARD OF 'seneschallaw28.TgsWithin'. -/
def tgsWithinUptoCard : Claim7 := { stood := { row := tgsWithinUptoRow, standIns := [], harness := (true, "56a2f719a0766cf43bce9bc4cb39a934e1e421da2e03314f7cd0efb59bfa2f1b"), looks := true }, kinds := [], alts := [], laidByText := true, laidKinds := [.data, .data, .data, .data, .handle], laidTests := true, laidLooks := .later }
def TgsWithinUptoCardSaid : Prop := Claim7.holds Tryz.pinned (.plain (OpenSpec.upto tgsWithinSpec)) tgsWithinUptoCard

/-- THE SECOND FORM's CARD OF 'seneschallaw28.TgsRenews'. -/
def tgsRenewsUptoCard : Claim7 := { stood := { row := tgsRenewsUptoRow, standIns := [], harness := (true, "56a2f719a0766cf43bce9bc4cb39a934e1e421da2e03314f7cd0efb59bfa2f1b"), looks := true }, kinds := [], alts := [], laidByText := true, laidKinds := [.data, .data, .data, .data, .handle], laidTests := true, laidLooks := .later }
def TgsRenewsUptoCardSaid : Prop := Claim7.holds Tryz.pinned (.plain (OpenSpec.upto tgsRenewsSpec)) tgsRenewsUptoCard

/-- THE SECOND FORM's CARD OF 'seneschallaw28.TgsOnce'. -/
def tgsOnceUptoCard : Claim7 := { stood := { row := tgsOnceUptoRow, standIns := [], harness := (true, "56a2f719a0766cf43bce9bc4cb39a934e1e421da2e03314f7cd0efb59bfa2f1b"), looks := true }, kinds := [], alts := [], laidByText := true, laidKinds := [.data, .data, .data, .data, .handle], laidTests := true, laidLooks := .later }
def TgsOnceUptoCardSaid : Prop := Claim7.holds Tryz.pinned (.plain (OpenSpec.upto tgsOnceSpec)) tgsOnceUptoCard

/-- THE SECOND FORM's CARD OF 'seneschallaw28.TgsVoid'. -/
def tgsVoidUptoCard : Claim7 := { stood := { row := tgsVoidUptoRow, standIns := [], harness := (true, "56a2f719a0766cf43bce9bc4cb39a934e1e421da2e03314f7cd0efb59bfa2f1b"), looks := true }, kinds := [], alts := [], laidByText := true, laidKinds := [.data, .data, .data, .data, .handle], laidTests := true, laidLooks := .later }
def TgsVoidUptoCardSaid : Prop := Claim7.holds Tryz.pinned (.plain (OpenSpec.upto tgsVoidSpec)) tgsVoidUptoCard
end Rows
end Go.Proofs.YtllfbfkjbhpfeaaGreatDoor
