/-
  DERIVED. GIVEN WITH THE SEED: THE CARDS: each row of YtepmjghgnhklfaaGreatDoorRows.lean that lists a variable, with what it lists TIED to the program's text (the seventh form; the later family's looks); each row that meets fmt, with fmt's text TOLD by the authors' own Lean function (tested against real Go, not proved from fmt's source: count such statements apart). THE CARD IS WHAT COUNTS. Prove the row's statement (the work); the ties are given (YtepmjghgnhklfaaGreatDoorTie.lean); close each card by the builder's one call (the guide's Derived/Test/ToyasCard.lean, 'card_holds'). Laid BY PROGRAM, IN A SANDBOX (cutbox-door.mjs). By AI agents, Wed Nov 11 2026. No macro, syntax, notation, axiom, sorry.
-/
import Derived.Test.YtepmjghgnhklfaaGreatDoorRows
import GoSem.ClaimSeven
namespace Go.Proofs.YtepmjghgnhklfaaGreatDoor
namespace Rows

/-- THE TIED CARD OF 'chroniclelaw11.MergeNone'. -/
def mergeNoneCard : Claim7 := { stood := { row := mergeNoneRow, standIns := [], harness := (true, "d6edac4b8436ada74f066e628d2f4b8f503f52ef7ab4accbe2c1ebc53597e6e2"), looks := true }, kinds := [], alts := [], laidByText := true, laidKinds := [.data, .data, .data, .data, .sentinel, .sentinel, .pinned], laidTests := true, laidLooks := .later }
def MergeNoneCardSaid : Prop := Claim7.holds Tryz.pinned (.plain (OpenSpec.ofChange mergeNoneSpec)) mergeNoneCard

/-- THE SECOND FORM's CARD OF 'chroniclelaw11.MergeNone'. -/
def mergeNoneUptoCard : Claim7 := { stood := { row := mergeNoneUptoRow, standIns := [], harness := (true, "d6edac4b8436ada74f066e628d2f4b8f503f52ef7ab4accbe2c1ebc53597e6e2"), looks := true }, kinds := [], alts := [], laidByText := true, laidKinds := [.data, .data, .data, .data, .sentinel, .sentinel, .pinned], laidTests := true, laidLooks := .later }
def MergeNoneUptoCardSaid : Prop := Claim7.holds Tryz.pinned (.plain (OpenSpec.upto mergeNoneSpec)) mergeNoneUptoCard
end Rows
end Go.Proofs.YtepmjghgnhklfaaGreatDoor
