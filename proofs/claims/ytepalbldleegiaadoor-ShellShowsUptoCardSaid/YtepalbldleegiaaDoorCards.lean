/-
  DERIVED. GIVEN WITH THE SEED: THE CARDS: each row of YtepalbldleegiaaDoorRows.lean that lists a variable, with what it lists TIED to the program's text (the seventh form; the later family's looks); each row that meets fmt, with fmt's text TOLD by the authors' own Lean function (tested against real Go, not proved from fmt's source: count such statements apart). THE CARD IS WHAT COUNTS. Prove the row's statement (the work); the ties are given (YtepalbldleegiaaDoorTie.lean); close each card by the builder's one call (the guide's Derived/Test/ToyasCard.lean, 'card_holds'). Laid BY PROGRAM, IN A SANDBOX (cutbox-door.mjs). By AI agents, Wed Nov 11 2026. No macro, syntax, notation, axiom, sorry.
-/
import Derived.Test.YtepalbldleegiaaDoorRows
import GoSem.ClaimSeven
namespace Go.Proofs.YtepalbldleegiaaDoor
namespace Rows

/-- THE TIED CARD OF 'chroniclelaw23.ShellShows'. -/
def shellShowsCard : Claim7 := { stood := { row := shellShowsRow, standIns := [], harness := (true, "e9d63c2ab1539c457af021c63760e9a35bebbbecaaf6b2fe17efd81b900d3652"), looks := true }, kinds := [], alts := [], laidByText := true, laidKinds := [.data, .data, .data, .sentinel, .sentinel, .data], laidTests := true, laidLooks := .later }
def ShellShowsCardSaid : Prop := Claim7.holds Tryd.pinned (.plain (OpenSpec.ofChange shellShowsSpec)) shellShowsCard

/-- THE SECOND FORM's CARD OF 'chroniclelaw23.ShellShows'. -/
def shellShowsUptoCard : Claim7 := { stood := { row := shellShowsUptoRow, standIns := [], harness := (true, "e9d63c2ab1539c457af021c63760e9a35bebbbecaaf6b2fe17efd81b900d3652"), looks := true }, kinds := [], alts := [], laidByText := true, laidKinds := [.data, .data, .data, .sentinel, .sentinel, .data], laidTests := true, laidLooks := .later }
def ShellShowsUptoCardSaid : Prop := Claim7.holds Tryd.pinned (.plain (OpenSpec.upto shellShowsSpec)) shellShowsUptoCard
end Rows
end Go.Proofs.YtepalbldleegiaaDoor
