/-
  DERIVED. GIVEN WITH THE SEED: THE CARDS: each row of YtendlmdmbkcdnaaGreatDoorRows.lean that lists a variable, with what it lists TIED to the program's text (the seventh form; the later family's looks); each row that meets fmt, with fmt's text TOLD by the authors' own Lean function (tested against real Go, not proved from fmt's source: count such statements apart). THE CARD IS WHAT COUNTS. Prove the row's statement (the work); the ties are given (YtendlmdmbkcdnaaGreatDoorTie.lean); close each card by the builder's one call (the guide's Derived/Test/ToyasCard.lean, 'card_holds'). Laid BY PROGRAM, IN A SANDBOX (cutbox-door.mjs). By AI agents, Wed Nov 11 2026. No macro, syntax, notation, axiom, sorry.
-/
import Derived.Test.YtendlmdmbkcdnaaGreatDoorRows
import GoSem.ClaimSeven
namespace Go.Proofs.YtendlmdmbkcdnaaGreatDoor
namespace Rows

/-- THE TIED CARD OF 'chroniclelaw10.TopicRefuses'. -/
def topicRefusesCard : Claim7 := { stood := { row := topicRefusesRow, standIns := [], harness := (true, "fe2dd563998f4a5ddb4f3dc31346109f8d79fb5208ba6cfbb35f71c665902ac2"), looks := true }, kinds := [], alts := [], laidByText := true, laidKinds := [.data, .data, .data, .data, .sentinel, .sentinel, .pinned], laidTests := true, laidLooks := .later }
def TopicRefusesCardSaid : Prop := Claim7.holds Tryz.pinned (.plain (OpenSpec.ofChange topicRefusesSpec)) topicRefusesCard

/-- THE TIED CARD OF 'chroniclelaw10.TopicReads'. -/
def topicReadsCard : Claim7 := { stood := { row := topicReadsRow, standIns := [], harness := (true, "fe2dd563998f4a5ddb4f3dc31346109f8d79fb5208ba6cfbb35f71c665902ac2"), looks := true }, kinds := [], alts := [], laidByText := true, laidKinds := [.data, .data, .data, .data, .sentinel, .sentinel, .pinned], laidTests := true, laidLooks := .later }
def TopicReadsCardSaid : Prop := Claim7.holds Tryz.pinned (.plain (OpenSpec.ofChange topicReadsSpec)) topicReadsCard

/-- THE TIED CARD OF 'chroniclelaw10.TopicSettled'. -/
def topicSettledCard : Claim7 := { stood := { row := topicSettledRow, standIns := [], harness := (true, "fe2dd563998f4a5ddb4f3dc31346109f8d79fb5208ba6cfbb35f71c665902ac2"), looks := true }, kinds := [], alts := [], laidByText := true, laidKinds := [.data, .data, .data, .data, .sentinel, .sentinel, .pinned], laidTests := true, laidLooks := .later }
def TopicSettledCardSaid : Prop := Claim7.holds Tryz.pinned (.plain (OpenSpec.ofChange topicSettledSpec)) topicSettledCard

/-- THE TIED CARD OF 'chroniclelaw10.TopicApart'. -/
def topicApartCard : Claim7 := { stood := { row := topicApartRow, standIns := [], harness := (true, "fe2dd563998f4a5ddb4f3dc31346109f8d79fb5208ba6cfbb35f71c665902ac2"), looks := true }, kinds := [], alts := [], laidByText := true, laidKinds := [.data, .data, .data, .data, .sentinel, .sentinel, .pinned], laidTests := true, laidLooks := .later }
def TopicApartCardSaid : Prop := Claim7.holds Tryz.pinned (.plain (OpenSpec.ofChange topicApartSpec)) topicApartCard

/-- THE SECOND FORM's CARD OF 'chroniclelaw10.TopicRefuses'. -/
def topicRefusesUptoCard : Claim7 := { stood := { row := topicRefusesUptoRow, standIns := [], harness := (true, "fe2dd563998f4a5ddb4f3dc31346109f8d79fb5208ba6cfbb35f71c665902ac2"), looks := true }, kinds := [], alts := [], laidByText := true, laidKinds := [.data, .data, .data, .data, .sentinel, .sentinel, .pinned], laidTests := true, laidLooks := .later }
def TopicRefusesUptoCardSaid : Prop := Claim7.holds Tryz.pinned (.plain (OpenSpec.upto topicRefusesSpec)) topicRefusesUptoCard

/-- THE SECOND FORM's CARD OF 'chroniclelaw10.TopicReads'. -/
def topicReadsUptoCard : Claim7 := { stood := { row := topicReadsUptoRow, standIns := [], harness := (true, "fe2dd563998f4a5ddb4f3dc31346109f8d79fb5208ba6cfbb35f71c665902ac2"), looks := true }, kinds := [], alts := [], laidByText := true, laidKinds := [.data, .data, .data, .data, .sentinel, .sentinel, .pinned], laidTests := true, laidLooks := .later }
def TopicReadsUptoCardSaid : Prop := Claim7.holds Tryz.pinned (.plain (OpenSpec.upto topicReadsSpec)) topicReadsUptoCard

/-- THE SECOND FORM's CARD OF 'chroniclelaw10.TopicSettled'. -/
def topicSettledUptoCard : Claim7 := { stood := { row := topicSettledUptoRow, standIns := [], harness := (true, "fe2dd563998f4a5ddb4f3dc31346109f8d79fb5208ba6cfbb35f71c665902ac2"), looks := true }, kinds := [], alts := [], laidByText := true, laidKinds := [.data, .data, .data, .data, .sentinel, .sentinel, .pinned], laidTests := true, laidLooks := .later }
def TopicSettledUptoCardSaid : Prop := Claim7.holds Tryz.pinned (.plain (OpenSpec.upto topicSettledSpec)) topicSettledUptoCard

/-- THE SECOND FORM's CARD OF 'chroniclelaw10.TopicApart'. -/
def topicApartUptoCard : Claim7 := { stood := { row := topicApartUptoRow, standIns := [], harness := (true, "fe2dd563998f4a5ddb4f3dc31346109f8d79fb5208ba6cfbb35f71c665902ac2"), looks := true }, kinds := [], alts := [], laidByText := true, laidKinds := [.data, .data, .data, .data, .sentinel, .sentinel, .pinned], laidTests := true, laidLooks := .later }
def TopicApartUptoCardSaid : Prop := Claim7.holds Tryz.pinned (.plain (OpenSpec.upto topicApartSpec)) topicApartUptoCard
end Rows
end Go.Proofs.YtendlmdmbkcdnaaGreatDoor
