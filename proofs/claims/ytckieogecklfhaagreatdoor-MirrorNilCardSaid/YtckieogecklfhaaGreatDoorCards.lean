/-
  DERIVED. GIVEN WITH THE SEED: THE CARDS: each row of YtckieogecklfhaaGreatDoorRows.lean that lists a variable, with what it lists TIED to the program's text (the seventh form; the later family's looks); each row that meets fmt, with fmt's text TOLD by the authors' own Lean function (tested against real Go, not proved from fmt's source: count such statements apart). THE CARD IS WHAT COUNTS. Prove the row's statement (the work); the ties are given (YtckieogecklfhaaGreatDoorTie.lean); close each card by the builder's one call (the guide's Derived/Test/ToyasCard.lean, 'card_holds'). Laid BY PROGRAM, IN A SANDBOX (cutbox-door.mjs). By AI agents, Wed Nov 11 2026. No macro, syntax, notation, axiom, sorry.
-/
import Derived.Test.YtckieogecklfhaaGreatDoorRows
import GoSem.ClaimSeven
namespace Go.Proofs.YtckieogecklfhaaGreatDoor
namespace Rows

/-- THE TIED CARD OF 'chroniclelaw22.MirrorNil'. -/
def mirrorNilCard : Claim7 := { stood := { row := mirrorNilRow, standIns := [], harness := (true, "93cef5c1483822af43c42255b54e7d99ab4d7109da98d2444e4873eb955a09d5"), looks := false }, kinds := [], alts := [], laidByText := true, laidKinds := [.data, .data, .data, .data], laidTests := true, laidLooks := .later }
def MirrorNilCardSaid : Prop := Claim7.holds Tryz.pinned (.plain (OpenSpec.ofChange mirrorNilSpec)) mirrorNilCard

/-- THE SECOND FORM's CARD OF 'chroniclelaw22.MirrorNil'. -/
def mirrorNilUptoCard : Claim7 := { stood := { row := mirrorNilUptoRow, standIns := [], harness := (true, "93cef5c1483822af43c42255b54e7d99ab4d7109da98d2444e4873eb955a09d5"), looks := false }, kinds := [], alts := [], laidByText := true, laidKinds := [.data, .data, .data, .data], laidTests := true, laidLooks := .later }
def MirrorNilUptoCardSaid : Prop := Claim7.holds Tryz.pinned (.plain (OpenSpec.upto mirrorNilSpec)) mirrorNilUptoCard
end Rows
end Go.Proofs.YtckieogecklfhaaGreatDoor
