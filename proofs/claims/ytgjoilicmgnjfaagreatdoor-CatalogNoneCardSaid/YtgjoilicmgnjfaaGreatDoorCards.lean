/-
  DERIVED. GIVEN WITH THE SEED: THE CARDS: each row of YtgjoilicmgnjfaaGreatDoorRows.lean that lists a variable, with what it lists TIED to the program's text (the seventh form; the later family's looks); each row that meets fmt, with fmt's text TOLD by the authors' own Lean function (tested against real Go, not proved from fmt's source: count such statements apart). THE CARD IS WHAT COUNTS. Prove the row's statement (the work); the ties are given (YtgjoilicmgnjfaaGreatDoorTie.lean); close each card by the builder's one call (the guide's Derived/Test/ToyasCard.lean, 'card_holds'). Laid BY PROGRAM, IN A SANDBOX (cutbox-door.mjs). By AI agents, Wed Nov 11 2026. No macro, syntax, notation, axiom, sorry.
-/
import Derived.Test.YtgjoilicmgnjfaaGreatDoorRows
import GoSem.ClaimSeven
namespace Go.Proofs.YtgjoilicmgnjfaaGreatDoor
namespace Rows

/-- THE TIED CARD OF 'chroniclelaw14.CatalogNone'. -/
def catalogNoneCard : Claim7 := { stood := { row := catalogNoneRow, standIns := [], harness := (true, "764a6d89f58bf69387ad4001de3010ed7e61e7c10443159ff2c309b7b337c68b"), looks := true }, kinds := [], alts := [], laidByText := true, laidKinds := [.data, .data, .data, .data, .sentinel, .sentinel, .pinned], laidTests := true, laidLooks := .later }
def CatalogNoneCardSaid : Prop := Claim7.holds Tryz.pinned (.plain (OpenSpec.ofChange catalogNoneSpec)) catalogNoneCard

/-- THE SECOND FORM's CARD OF 'chroniclelaw14.CatalogNone'. -/
def catalogNoneUptoCard : Claim7 := { stood := { row := catalogNoneUptoRow, standIns := [], harness := (true, "764a6d89f58bf69387ad4001de3010ed7e61e7c10443159ff2c309b7b337c68b"), looks := true }, kinds := [], alts := [], laidByText := true, laidKinds := [.data, .data, .data, .data, .sentinel, .sentinel, .pinned], laidTests := true, laidLooks := .later }
def CatalogNoneUptoCardSaid : Prop := Claim7.holds Tryz.pinned (.plain (OpenSpec.upto catalogNoneSpec)) catalogNoneUptoCard
end Rows
end Go.Proofs.YtgjoilicmgnjfaaGreatDoor
