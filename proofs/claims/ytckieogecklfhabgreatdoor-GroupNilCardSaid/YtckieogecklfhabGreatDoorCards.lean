/-
  DERIVED. GIVEN WITH THE SEED: THE CARDS: each row of YtckieogecklfhabGreatDoorRows.lean that lists a variable, with what it lists TIED to the program's text (the seventh form; the later family's looks); each row that meets fmt, with fmt's text TOLD by the authors' own Lean function (tested against real Go, not proved from fmt's source: count such statements apart). THE CARD IS WHAT COUNTS. Prove the row's statement (the work); the ties are given (YtckieogecklfhabGreatDoorTie.lean); close each card by the builder's one call (the guide's Derived/Test/ToyasCard.lean, 'card_holds'). Laid BY PROGRAM, IN A SANDBOX (cutbox-door.mjs). By AI agents, Wed Nov 11 2026. No macro, syntax, notation, axiom, sorry.
-/
import Derived.Test.YtckieogecklfhabGreatDoorRows
import GoSem.ClaimSeven
namespace Go.Proofs.YtckieogecklfhabGreatDoor
namespace Rows

/-- THE TIED CARD OF 'chroniclelaw15.GroupNil'. -/
def groupNilCard : Claim7 := { stood := { row := groupNilRow, standIns := [], harness := (true, "1f7a1bdfad38e1a112e4245b36e4b73be6a6f2aa7a54fd71e24b89c15ac4b962"), looks := true }, kinds := [], alts := [], laidByText := true, laidKinds := [.data, .data, .data, .sentinel, .sentinel], laidTests := true, laidLooks := .later }
def GroupNilCardSaid : Prop := Claim7.holds Tryz.pinned (.plain (OpenSpec.ofChange groupNilSpec)) groupNilCard

/-- THE SECOND FORM's CARD OF 'chroniclelaw15.GroupNil'. -/
def groupNilUptoCard : Claim7 := { stood := { row := groupNilUptoRow, standIns := [], harness := (true, "1f7a1bdfad38e1a112e4245b36e4b73be6a6f2aa7a54fd71e24b89c15ac4b962"), looks := true }, kinds := [], alts := [], laidByText := true, laidKinds := [.data, .data, .data, .sentinel, .sentinel], laidTests := true, laidLooks := .later }
def GroupNilUptoCardSaid : Prop := Claim7.holds Tryz.pinned (.plain (OpenSpec.upto groupNilSpec)) groupNilUptoCard
end Rows
end Go.Proofs.YtckieogecklfhabGreatDoor
