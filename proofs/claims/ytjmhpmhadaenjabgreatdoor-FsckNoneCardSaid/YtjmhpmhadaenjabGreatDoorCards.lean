/-
  DERIVED. GIVEN WITH THE SEED: THE CARDS: each row of YtjmhpmhadaenjabGreatDoorRows.lean that lists a variable, with what it lists TIED to the program's text (the seventh form; the later family's looks); each row that meets fmt, with fmt's text TOLD by the authors' own Lean function (tested against real Go, not proved from fmt's source: count such statements apart). THE CARD IS WHAT COUNTS. Prove the row's statement (the work); the ties are given (YtjmhpmhadaenjabGreatDoorTie.lean); close each card by the builder's one call (the guide's Derived/Test/ToyasCard.lean, 'card_holds'). Laid BY PROGRAM, IN A SANDBOX (cutbox-door.mjs). By AI agents, Wed Nov 11 2026. No macro, syntax, notation, axiom, sorry.
-/
import Derived.Test.YtjmhpmhadaenjabGreatDoorRows
import GoSem.ClaimSeven
namespace Go.Proofs.YtjmhpmhadaenjabGreatDoor
namespace Rows

/-- THE TIED CARD OF 'chroniclelaw21.FsckNone'. -/
def fsckNoneCard : Claim7 := { stood := { row := fsckNoneRow, standIns := [], harness := (true, "10739fb74e5be02c8df7f3fdf6f5166041ff332203a768eaf72bae76cdc8ada3"), looks := true }, kinds := [], alts := [], laidByText := true, laidKinds := [.data, .data, .data, .data, .sentinel, .sentinel, .data, .pinned], laidTests := true, laidLooks := .later }
def FsckNoneCardSaid : Prop := Claim7.holds Tryz.pinned (.plain (OpenSpec.ofChange fsckNoneSpec)) fsckNoneCard

/-- THE SECOND FORM's CARD OF 'chroniclelaw21.FsckNone'. -/
def fsckNoneUptoCard : Claim7 := { stood := { row := fsckNoneUptoRow, standIns := [], harness := (true, "10739fb74e5be02c8df7f3fdf6f5166041ff332203a768eaf72bae76cdc8ada3"), looks := true }, kinds := [], alts := [], laidByText := true, laidKinds := [.data, .data, .data, .data, .sentinel, .sentinel, .data, .pinned], laidTests := true, laidLooks := .later }
def FsckNoneUptoCardSaid : Prop := Claim7.holds Tryz.pinned (.plain (OpenSpec.upto fsckNoneSpec)) fsckNoneUptoCard
end Rows
end Go.Proofs.YtjmhpmhadaenjabGreatDoor
