/-
  DERIVED. GIVEN WITH THE SEED: THE CARDS: each row of YtepalbldleegiaaGreatDoorRows.lean that lists a variable, with what it lists TIED to the program's text (the seventh form; the later family's looks); each row that meets fmt, with fmt's text TOLD by the authors' own Lean function (tested against real Go, not proved from fmt's source: count such statements apart). THE CARD IS WHAT COUNTS. Prove the row's statement (the work); the ties are given (YtepalbldleegiaaGreatDoorTie.lean); close each card by the builder's one call (the guide's Derived/Test/ToyasCard.lean, 'card_holds'). Laid BY PROGRAM, IN A SANDBOX (cutbox-door.mjs). By AI agents, Wed Nov 11 2026. No macro, syntax, notation, axiom, sorry.
-/
import Derived.Test.YtepalbldleegiaaGreatDoorRows
import GoSem.ClaimSeven
namespace Go.Proofs.YtepalbldleegiaaGreatDoor
namespace Rows

/-- THE TIED CARD OF 'chroniclelaw23.ShellPrints'. -/
def shellPrintsCard : Claim7 := { stood := { row := shellPrintsRow, standIns := [], harness := (true, "c06adc466c62d38e8c41eb82d3d1b5e1af5b70daa2887a09b7b6f80c56683d78"), looks := true }, kinds := [], alts := [], laidByText := true, laidKinds := [.data, .data, .data, .sentinel, .sentinel, .data], laidTests := true, laidLooks := .later }
def ShellPrintsCardSaid : Prop := Claim7.holds Tryz.pinned (.plain (OpenSpec.ofChange shellPrintsSpec)) shellPrintsCard

/-- THE TIED CARD OF 'chroniclelaw23.ShellParses'. -/
def shellParsesCard : Claim7 := { stood := { row := shellParsesRow, standIns := [], harness := (true, "c06adc466c62d38e8c41eb82d3d1b5e1af5b70daa2887a09b7b6f80c56683d78"), looks := true }, kinds := [], alts := [], laidByText := true, laidKinds := [.data, .data, .data, .sentinel, .sentinel, .data], laidTests := true, laidLooks := .later }
def ShellParsesCardSaid : Prop := Claim7.holds Tryz.pinned (.plain (OpenSpec.ofChange shellParsesSpec)) shellParsesCard

/-- THE TIED CARD OF 'chroniclelaw23.ShellRound'. -/
def shellRoundCard : Claim7 := { stood := { row := shellRoundRow, standIns := [], harness := (true, "c06adc466c62d38e8c41eb82d3d1b5e1af5b70daa2887a09b7b6f80c56683d78"), looks := true }, kinds := [], alts := [], laidByText := true, laidKinds := [.data, .data, .data, .sentinel, .sentinel, .data], laidTests := true, laidLooks := .later }
def ShellRoundCardSaid : Prop := Claim7.holds Tryz.pinned (.plain (OpenSpec.ofChange shellRoundSpec)) shellRoundCard

/-- THE TIED CARD OF 'chroniclelaw23.ShellBlanks'. -/
def shellBlanksCard : Claim7 := { stood := { row := shellBlanksRow, standIns := [], harness := (true, "c06adc466c62d38e8c41eb82d3d1b5e1af5b70daa2887a09b7b6f80c56683d78"), looks := true }, kinds := [], alts := [], laidByText := true, laidKinds := [.data, .data, .data, .sentinel, .sentinel, .data], laidTests := true, laidLooks := .later }
def ShellBlanksCardSaid : Prop := Claim7.holds Tryz.pinned (.plain (OpenSpec.ofChange shellBlanksSpec)) shellBlanksCard

/-- THE TIED CARD OF 'chroniclelaw23.ShellTells'. -/
def shellTellsCard : Claim7 := { stood := { row := shellTellsRow, standIns := [], harness := (true, "c06adc466c62d38e8c41eb82d3d1b5e1af5b70daa2887a09b7b6f80c56683d78"), looks := true }, kinds := [], alts := [], laidByText := true, laidKinds := [.data, .data, .data, .sentinel, .sentinel, .data, .data], laidTests := true, laidLooks := .later }
def ShellTellsCardSaid : Prop := Claim7.holds Tryz.pinned (.plain (OpenSpec.ofChange shellTellsSpec)) shellTellsCard

/-- THE SECOND FORM's CARD OF 'chroniclelaw23.ShellPrints'. -/
def shellPrintsUptoCard : Claim7 := { stood := { row := shellPrintsUptoRow, standIns := [], harness := (true, "c06adc466c62d38e8c41eb82d3d1b5e1af5b70daa2887a09b7b6f80c56683d78"), looks := true }, kinds := [], alts := [], laidByText := true, laidKinds := [.data, .data, .data, .sentinel, .sentinel, .data], laidTests := true, laidLooks := .later }
def ShellPrintsUptoCardSaid : Prop := Claim7.holds Tryz.pinned (.plain (OpenSpec.upto shellPrintsSpec)) shellPrintsUptoCard

/-- THE SECOND FORM's CARD OF 'chroniclelaw23.ShellParses'. -/
def shellParsesUptoCard : Claim7 := { stood := { row := shellParsesUptoRow, standIns := [], harness := (true, "c06adc466c62d38e8c41eb82d3d1b5e1af5b70daa2887a09b7b6f80c56683d78"), looks := true }, kinds := [], alts := [], laidByText := true, laidKinds := [.data, .data, .data, .sentinel, .sentinel, .data], laidTests := true, laidLooks := .later }
def ShellParsesUptoCardSaid : Prop := Claim7.holds Tryz.pinned (.plain (OpenSpec.upto shellParsesSpec)) shellParsesUptoCard

/-- THE SECOND FORM's CARD OF 'chroniclelaw23.ShellRound'. -/
def shellRoundUptoCard : Claim7 := { stood := { row := shellRoundUptoRow, standIns := [], harness := (true, "c06adc466c62d38e8c41eb82d3d1b5e1af5b70daa2887a09b7b6f80c56683d78"), looks := true }, kinds := [], alts := [], laidByText := true, laidKinds := [.data, .data, .data, .sentinel, .sentinel, .data], laidTests := true, laidLooks := .later }
def ShellRoundUptoCardSaid : Prop := Claim7.holds Tryz.pinned (.plain (OpenSpec.upto shellRoundSpec)) shellRoundUptoCard

/-- THE SECOND FORM's CARD OF 'chroniclelaw23.ShellBlanks'. -/
def shellBlanksUptoCard : Claim7 := { stood := { row := shellBlanksUptoRow, standIns := [], harness := (true, "c06adc466c62d38e8c41eb82d3d1b5e1af5b70daa2887a09b7b6f80c56683d78"), looks := true }, kinds := [], alts := [], laidByText := true, laidKinds := [.data, .data, .data, .sentinel, .sentinel, .data], laidTests := true, laidLooks := .later }
def ShellBlanksUptoCardSaid : Prop := Claim7.holds Tryz.pinned (.plain (OpenSpec.upto shellBlanksSpec)) shellBlanksUptoCard

/-- THE SECOND FORM's CARD OF 'chroniclelaw23.ShellTells'. -/
def shellTellsUptoCard : Claim7 := { stood := { row := shellTellsUptoRow, standIns := [], harness := (true, "c06adc466c62d38e8c41eb82d3d1b5e1af5b70daa2887a09b7b6f80c56683d78"), looks := true }, kinds := [], alts := [], laidByText := true, laidKinds := [.data, .data, .data, .sentinel, .sentinel, .data, .data], laidTests := true, laidLooks := .later }
def ShellTellsUptoCardSaid : Prop := Claim7.holds Tryz.pinned (.plain (OpenSpec.upto shellTellsSpec)) shellTellsUptoCard
end Rows
end Go.Proofs.YtepalbldleegiaaGreatDoor
