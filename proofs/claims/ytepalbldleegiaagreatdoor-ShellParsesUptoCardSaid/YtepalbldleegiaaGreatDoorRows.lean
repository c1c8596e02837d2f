/-
  NARROWER THAN 'FOR EVERY INPUT', by the rows' own cells (each row's printed sentence says how): ShellPrints: laid · ShellParses: laid · ShellRound: laid · ShellBlanks: laid · ShellTells: laid.
  DERIVED. THE GIVEN ROWS OF THIS SEAT. 5 by the template 'for every input the law returns true; each argument reads behind the call as it read before'; 0 by the template 'total and deterministic' (their statements: YtepalbldleegiaaGreatDoorTotals.lean).
  GIVEN WITH THE SEED: the statements are not yours to turn. If you find one false, say at which input.
  Laid BY PROGRAM, IN A SANDBOX (cutbox-rows.mjs): the forced cells as the released guide's own fill.sh prints them over the translation 3329cb00331f4a30… (all of the seat's roots in one cut). By AI agents, Wed Nov 11 2026. No macro, syntax, notation, axiom, sorry.
-/
import Derived.Test.YtepalbldleegiaaGreatDoorChecked
import GoSem.Claim
import GoSem.ClaimJoined
import GoSem.ClaimMapViews
import Derived.JoinedTies
import Derived.KernelRfl
namespace Go.Proofs.YtepalbldleegiaaGreatDoor
/- THE CELL 'sum', in the pinned program and in every row, IS THE sha256 OF THE DUMP (.gsa) THAT YtepalbldleegiaaGreatDoorProg.lean LOADS. Nothing in Lean hashes anything: it is a label: what it is worth is what the hold of that sum in a sandbox is worth. -/
noncomputable def Tryz.pinned : Pinned := { name := "ytepalbldleegiaagreatdoor", sum := "3329cb00331f4a306f9df44e31cdb322910ffe07eae7b78b4f36cd623f06d6a9", checked := Tryz.checked }
namespace Rows
def none {H : Type} : Left H := { results := [], args := [] }

/- WHAT THE LISTED PACKAGE-LEVEL VARIABLES READ AS WHEN THE CALL BEGINS. Each datum BY PROGRAM (the guide's laid-datum.mjs) off the statement by which the dump's own 'gosem.cut.vars' lays the variable. In a bare row this is a premise. The card (YtepalbldleegiaaGreatDoorCards.lean) ties it to the program's text. -/
def laid_math_bits_deBruijn32tab {H : Type} : DataW H := .agg [.lit (.int .u8 0), .lit (.int .u8 1), .lit (.int .u8 28), .lit (.int .u8 2), .lit (.int .u8 29), .lit (.int .u8 14), .lit (.int .u8 24), .lit (.int .u8 3), .lit (.int .u8 30), .lit (.int .u8 22), .lit (.int .u8 20), .lit (.int .u8 15), .lit (.int .u8 25), .lit (.int .u8 17), .lit (.int .u8 4), .lit (.int .u8 8), .lit (.int .u8 31), .lit (.int .u8 27), .lit (.int .u8 13), .lit (.int .u8 23), .lit (.int .u8 21), .lit (.int .u8 19), .lit (.int .u8 16), .lit (.int .u8 7), .lit (.int .u8 26), .lit (.int .u8 12), .lit (.int .u8 18), .lit (.int .u8 6), .lit (.int .u8 11), .lit (.int .u8 5), .lit (.int .u8 10), .lit (.int .u8 9)]
def laid_math_bits_deBruijn64tab {H : Type} : DataW H := .agg [.lit (.int .u8 0), .lit (.int .u8 1), .lit (.int .u8 56), .lit (.int .u8 2), .lit (.int .u8 57), .lit (.int .u8 49), .lit (.int .u8 28), .lit (.int .u8 3), .lit (.int .u8 61), .lit (.int .u8 58), .lit (.int .u8 42), .lit (.int .u8 50), .lit (.int .u8 38), .lit (.int .u8 29), .lit (.int .u8 17), .lit (.int .u8 4), .lit (.int .u8 62), .lit (.int .u8 47), .lit (.int .u8 59), .lit (.int .u8 36), .lit (.int .u8 45), .lit (.int .u8 43), .lit (.int .u8 51), .lit (.int .u8 22), .lit (.int .u8 53), .lit (.int .u8 39), .lit (.int .u8 33), .lit (.int .u8 30), .lit (.int .u8 24), .lit (.int .u8 18), .lit (.int .u8 12), .lit (.int .u8 5), .lit (.int .u8 63), .lit (.int .u8 55), .lit (.int .u8 48), .lit (.int .u8 27), .lit (.int .u8 60), .lit (.int .u8 41), .lit (.int .u8 37), .lit (.int .u8 16), .lit (.int .u8 46), .lit (.int .u8 35), .lit (.int .u8 44), .lit (.int .u8 21), .lit (.int .u8 52), .lit (.int .u8 32), .lit (.int .u8 23), .lit (.int .u8 11), .lit (.int .u8 54), .lit (.int .u8 26), .lit (.int .u8 40), .lit (.int .u8 15), .lit (.int .u8 34), .lit (.int .u8 20), .lit (.int .u8 31), .lit (.int .u8 10), .lit (.int .u8 25), .lit (.int .u8 14), .lit (.int .u8 19), .lit (.int .u8 9), .lit (.int .u8 13), .lit (.int .u8 8), .lit (.int .u8 7), .lit (.int .u8 6)]
def laid_internal_strconv_uint64pow10 {H : Type} : DataW H := .agg [.lit (.int .u64 1), .lit (.int .u64 10), .lit (.int .u64 100), .lit (.int .u64 1000), .lit (.int .u64 10000), .lit (.int .u64 100000), .lit (.int .u64 1000000), .lit (.int .u64 10000000), .lit (.int .u64 100000000), .lit (.int .u64 1000000000), .lit (.int .u64 10000000000), .lit (.int .u64 100000000000), .lit (.int .u64 1000000000000), .lit (.int .u64 10000000000000), .lit (.int .u64 100000000000000), .lit (.int .u64 1000000000000000), .lit (.int .u64 10000000000000000), .lit (.int .u64 100000000000000000), .lit (.int .u64 1000000000000000000), .lit (.int .u64 10000000000000000000)]
def laid_strconv_ErrRange {H : Type} : DataW H := .iface "*errors.errorString" (.ptr (.agg [.lit (.string [118, 97, 108, 117, 101, 32, 111, 117, 116, 32, 111, 102, 32, 114, 97, 110, 103, 101])]))
def laid_strconv_ErrSyntax {H : Type} : DataW H := .iface "*errors.errorString" (.ptr (.agg [.lit (.string [105, 110, 118, 97, 108, 105, 100, 32, 115, 121, 110, 116, 97, 120])]))
def laid_chronicle_wire_uses {H : Type} : DataW H := .agg [.agg [.lit (.int .i64 0)], .agg [.lit (.int .i64 0)], .agg [.lit (.int .i64 17)], .agg [.lit (.int .i64 1)], .agg [.lit (.int .i64 2)], .agg [.lit (.int .i64 103)], .agg [.lit (.int .i64 99)], .agg [.lit (.int .i64 3)], .agg [.lit (.int .i64 9)], .agg [.lit (.int .i64 3)], .agg [.lit (.int .i64 9)], .agg [.lit (.int .i64 16)], .agg [.lit (.int .i64 2)], .agg [.lit (.int .i64 27)], .agg [.lit (.int .i64 3)], .agg [.lit (.int .i64 1)]]
def laid_chronicle_shell_codes {H : Type} : DataW H := .agg [.lit (.string [111, 107]), .lit (.string [98, 97, 100, 45, 114, 101, 113, 117, 101, 115, 116]), .lit (.string [110, 111, 45, 116, 111, 112, 105, 99]), .lit (.string [101, 120, 105, 115, 116, 115]), .lit (.string [102, 117, 108, 108]), .lit (.string [111, 102, 102, 115, 101, 116, 115]), .lit (.string [104, 111, 114, 105, 122, 111, 110, 45, 112, 97, 115, 115, 101, 100]), .lit (.string [116, 104, 114, 111, 116, 116, 108, 101, 100]), .lit (.string [115, 101, 113, 117, 101, 110, 99, 101]), .lit (.string [116, 111, 111, 45, 109, 97, 110, 121]), .lit (.string [110, 111, 45, 115, 117, 99, 104]), .lit (.string [98, 101, 121, 111, 110, 100])]

/-- 'chroniclelaw23.ShellPrints': WHATEVER THE INPUT: true; the input reads as it did. -/
def shellPrintsSpec : ChangeSpec := { name := "shellPrints", fn := fun _ => fun
  | [d] => { results := [.lit (.bool true)], args := [d] }
  | _ => none }
def shellPrintsRow : OpenClaim := { program := "ytepalbldleegiaagreatdoor", sum := "3329cb00331f4a306f9df44e31cdb322910ffe07eae7b78b4f36cd623f06d6a9", func := "chronicle/chroniclelaw23.ShellPrints", spec := "shellPrints", inPlace := ["internal/abi.NoEscape", "internal/bytealg.IndexByteString", "internal/bytealg.MakeNoZero"], unfollowed := true, recurses := true, named := ["internal/strconv.uint64pow10", "math/bits.deBruijn32tab", "math/bits.deBruijn64tab", "strconv.ErrSyntax", "strconv.ErrRange", "chronicle/wire.uses"], apart := false, laid := [("math/bits.deBruijn32tab", laid_math_bits_deBruijn32tab), ("math/bits.deBruijn64tab", laid_math_bits_deBruijn64tab), ("internal/strconv.uint64pow10", laid_internal_strconv_uint64pow10), ("strconv.ErrRange", laid_strconv_ErrRange), ("strconv.ErrSyntax", laid_strconv_ErrSyntax), ("chronicle/wire.uses", laid_chronicle_wire_uses)] }
def ShellPrintsSaid : Prop := shellPrintsRow.holds Tryz.pinned (OpenSpec.ofChange shellPrintsSpec)

/-- ITS FALSE NEIGHBOUR: 'it returns false'. Refute it at one input. -/
def shellPrintsWrong : ChangeSpec := { name := "shellPrints", fn := fun _ => fun
  | [d] => { results := [.lit (.bool false)], args := [d] }
  | _ => none }
def ShellPrintsWrongFalsely : Prop := shellPrintsRow.holds Tryz.pinned (OpenSpec.ofChange shellPrintsWrong)

/-- 'chroniclelaw23.ShellParses': WHATEVER THE INPUT: true; the input reads as it did. -/
def shellParsesSpec : ChangeSpec := { name := "shellParses", fn := fun _ => fun
  | [d] => { results := [.lit (.bool true)], args := [d] }
  | _ => none }
def shellParsesRow : OpenClaim := { program := "ytepalbldleegiaagreatdoor", sum := "3329cb00331f4a306f9df44e31cdb322910ffe07eae7b78b4f36cd623f06d6a9", func := "chronicle/chroniclelaw23.ShellParses", spec := "shellParses", inPlace := ["internal/abi.NoEscape", "internal/bytealg.IndexByteString", "internal/bytealg.MakeNoZero"], unfollowed := true, recurses := true, named := ["internal/strconv.uint64pow10", "math/bits.deBruijn32tab", "math/bits.deBruijn64tab", "strconv.ErrSyntax", "strconv.ErrRange", "chronicle/wire.uses"], apart := false, laid := [("math/bits.deBruijn32tab", laid_math_bits_deBruijn32tab), ("math/bits.deBruijn64tab", laid_math_bits_deBruijn64tab), ("internal/strconv.uint64pow10", laid_internal_strconv_uint64pow10), ("strconv.ErrRange", laid_strconv_ErrRange), ("strconv.ErrSyntax", laid_strconv_ErrSyntax), ("chronicle/wire.uses", laid_chronicle_wire_uses)] }
def ShellParsesSaid : Prop := shellParsesRow.holds Tryz.pinned (OpenSpec.ofChange shellParsesSpec)

/-- ITS FALSE NEIGHBOUR: 'it returns false'. Refute it at one input. -/
def shellParsesWrong : ChangeSpec := { name := "shellParses", fn := fun _ => fun
  | [d] => { results := [.lit (.bool false)], args := [d] }
  | _ => none }
def ShellParsesWrongFalsely : Prop := shellParsesRow.holds Tryz.pinned (OpenSpec.ofChange shellParsesWrong)

/-- 'chroniclelaw23.ShellRound': WHATEVER THE INPUT: true; the input reads as it did. -/
def shellRoundSpec : ChangeSpec := { name := "shellRound", fn := fun _ => fun
  | [d1, d2] => { results := [.lit (.bool true)], args := [d1, d2] }
  | _ => none }
def shellRoundRow : OpenClaim := { program := "ytepalbldleegiaagreatdoor", sum := "3329cb00331f4a306f9df44e31cdb322910ffe07eae7b78b4f36cd623f06d6a9", func := "chronicle/chroniclelaw23.ShellRound", spec := "shellRound", inPlace := ["internal/abi.NoEscape", "internal/bytealg.IndexByteString", "internal/bytealg.MakeNoZero"], unfollowed := true, recurses := true, named := ["internal/strconv.uint64pow10", "math/bits.deBruijn32tab", "math/bits.deBruijn64tab", "strconv.ErrSyntax", "strconv.ErrRange", "chronicle/wire.uses"], apart := false, laid := [("math/bits.deBruijn32tab", laid_math_bits_deBruijn32tab), ("math/bits.deBruijn64tab", laid_math_bits_deBruijn64tab), ("internal/strconv.uint64pow10", laid_internal_strconv_uint64pow10), ("strconv.ErrRange", laid_strconv_ErrRange), ("strconv.ErrSyntax", laid_strconv_ErrSyntax), ("chronicle/wire.uses", laid_chronicle_wire_uses)] }
def ShellRoundSaid : Prop := shellRoundRow.holds Tryz.pinned (OpenSpec.ofChange shellRoundSpec)

/-- ITS FALSE NEIGHBOUR: 'it returns false'. Refute it at one input. -/
def shellRoundWrong : ChangeSpec := { name := "shellRound", fn := fun _ => fun
  | [d1, d2] => { results := [.lit (.bool false)], args := [d1, d2] }
  | _ => none }
def ShellRoundWrongFalsely : Prop := shellRoundRow.holds Tryz.pinned (OpenSpec.ofChange shellRoundWrong)

/-- 'chroniclelaw23.ShellBlanks': WHATEVER THE INPUT: true; the input reads as it did. -/
def shellBlanksSpec : ChangeSpec := { name := "shellBlanks", fn := fun _ => fun
  | [d1, d2] => { results := [.lit (.bool true)], args := [d1, d2] }
  | _ => none }
def shellBlanksRow : OpenClaim := { program := "ytepalbldleegiaagreatdoor", sum := "3329cb00331f4a306f9df44e31cdb322910ffe07eae7b78b4f36cd623f06d6a9", func := "chronicle/chroniclelaw23.ShellBlanks", spec := "shellBlanks", inPlace := ["internal/abi.NoEscape", "internal/bytealg.IndexByteString", "internal/bytealg.MakeNoZero"], unfollowed := true, recurses := true, named := ["internal/strconv.uint64pow10", "math/bits.deBruijn32tab", "math/bits.deBruijn64tab", "strconv.ErrSyntax", "strconv.ErrRange", "chronicle/wire.uses"], apart := false, laid := [("math/bits.deBruijn32tab", laid_math_bits_deBruijn32tab), ("math/bits.deBruijn64tab", laid_math_bits_deBruijn64tab), ("internal/strconv.uint64pow10", laid_internal_strconv_uint64pow10), ("strconv.ErrRange", laid_strconv_ErrRange), ("strconv.ErrSyntax", laid_strconv_ErrSyntax), ("chronicle/wire.uses", laid_chronicle_wire_uses)] }
def ShellBlanksSaid : Prop := shellBlanksRow.holds Tryz.pinned (OpenSpec.ofChange shellBlanksSpec)

/-- ITS FALSE NEIGHBOUR: 'it returns false'. Refute it at one input. -/
def shellBlanksWrong : ChangeSpec := { name := "shellBlanks", fn := fun _ => fun
  | [d1, d2] => { results := [.lit (.bool false)], args := [d1, d2] }
  | _ => none }
def ShellBlanksWrongFalsely : Prop := shellBlanksRow.holds Tryz.pinned (OpenSpec.ofChange shellBlanksWrong)

/-- 'chroniclelaw23.ShellTells': WHATEVER THE INPUT: true; the input reads as it did. -/
def shellTellsSpec : ChangeSpec := { name := "shellTells", fn := fun _ => fun
  | [d1, d2] => { results := [.lit (.bool true)], args := [d1, d2] }
  | _ => none }
def shellTellsRow : OpenClaim := { program := "ytepalbldleegiaagreatdoor", sum := "3329cb00331f4a306f9df44e31cdb322910ffe07eae7b78b4f36cd623f06d6a9", func := "chronicle/chroniclelaw23.ShellTells", spec := "shellTells", inPlace := ["internal/abi.NoEscape", "internal/bytealg.IndexByteString", "internal/bytealg.MakeNoZero"], unfollowed := true, recurses := true, named := ["chronicle/shell.codes", "internal/strconv.uint64pow10", "math/bits.deBruijn32tab", "math/bits.deBruijn64tab", "strconv.ErrSyntax", "strconv.ErrRange", "chronicle/wire.uses"], apart := false, laid := [("math/bits.deBruijn32tab", laid_math_bits_deBruijn32tab), ("math/bits.deBruijn64tab", laid_math_bits_deBruijn64tab), ("internal/strconv.uint64pow10", laid_internal_strconv_uint64pow10), ("strconv.ErrRange", laid_strconv_ErrRange), ("strconv.ErrSyntax", laid_strconv_ErrSyntax), ("chronicle/wire.uses", laid_chronicle_wire_uses), ("chronicle/shell.codes", laid_chronicle_shell_codes)] }
def ShellTellsSaid : Prop := shellTellsRow.holds Tryz.pinned (OpenSpec.ofChange shellTellsSpec)

/-- ITS FALSE NEIGHBOUR: 'it returns false'. Refute it at one input. -/
def shellTellsWrong : ChangeSpec := { name := "shellTells", fn := fun _ => fun
  | [d1, d2] => { results := [.lit (.bool false)], args := [d1, d2] }
  | _ => none }
def ShellTellsWrongFalsely : Prop := shellTellsRow.holds Tryz.pinned (OpenSpec.ofChange shellTellsWrong)

/- THE SECOND FORM. 'bulk': how many values and letters a reading holds, each counted each time it is reached (what is shared counts as often as it is met; a slice's spare places count too). A statement '..UptoSaid' is the law's where the arguments, and the package variables that the reading takes, are together of bulk at most 1048576: NARROWER than '..Said'. Prove '..Said' where nothing that the law and all that it calls make is longer than what came in: it says more and counts as full. Else prove '..UptoSaid'. A law counts once. -/
mutual
def uptoBulk {H : Type} : DataW H → Nat
  | .lit (.string bytes) => bytes.length + 1
  | .lit _ => 1
  | .nil => 1
  | .ptr d => uptoBulk d + 1
  | .slice elems spare => uptoBulkAll elems + uptoBulkAll spare + 1
  | .agg parts => uptoBulkAll parts + 1
  | .iface _ d => uptoBulk d + 1
  | .map entries => uptoBulkEntries entries + 1
  | .held _ => 1
def uptoBulkAll {H : Type} : List (DataW H) → Nat
  | [] => 0
  | d :: r => uptoBulk d + uptoBulkAll r
def uptoBulkEntries {H : Type} : List (Lit × DataW H) → Nat
  | [] => 0
  | x :: r => uptoBulkEntry x + uptoBulkEntries r
def uptoBulkEntry {H : Type} : Lit × DataW H → Nat
  | (.string bytes, d) => bytes.length + uptoBulk d + 1
  | (_, d) => uptoBulk d + 1
 end
def uptoSmall : (H : Type) → List (DataW H) → Bool := fun _ ds => decide (uptoBulkAll ds ≤ 1048576)
def OpenSpec.upto (s : _root_.Go.ChangeSpec) : _root_.Go.OpenSpec := { _root_.Go.OpenSpec.ofChange s with cond := some uptoSmall }

/-- 'chroniclelaw23.ShellPrints', WHERE WHAT IT READS IS OF BULK AT MOST 1048576: true; the input reads as it did. -/
def shellPrintsUptoRow : OpenClaim := { program := "ytepalbldleegiaagreatdoor", sum := "3329cb00331f4a306f9df44e31cdb322910ffe07eae7b78b4f36cd623f06d6a9", func := "chronicle/chroniclelaw23.ShellPrints", spec := "shellPrints", inPlace := ["internal/abi.NoEscape", "internal/bytealg.IndexByteString", "internal/bytealg.MakeNoZero"], unfollowed := true, recurses := true, named := ["internal/strconv.uint64pow10", "math/bits.deBruijn32tab", "math/bits.deBruijn64tab", "strconv.ErrSyntax", "strconv.ErrRange", "chronicle/wire.uses"], apart := false, laid := [("math/bits.deBruijn32tab", laid_math_bits_deBruijn32tab), ("math/bits.deBruijn64tab", laid_math_bits_deBruijn64tab), ("internal/strconv.uint64pow10", laid_internal_strconv_uint64pow10), ("strconv.ErrRange", laid_strconv_ErrRange), ("strconv.ErrSyntax", laid_strconv_ErrSyntax), ("chronicle/wire.uses", laid_chronicle_wire_uses)], narrowed := true }
def ShellPrintsUptoSaid : Prop := shellPrintsUptoRow.holds Tryz.pinned (OpenSpec.upto shellPrintsSpec)

/-- 'chroniclelaw23.ShellParses', WHERE WHAT IT READS IS OF BULK AT MOST 1048576: true; the input reads as it did. -/
def shellParsesUptoRow : OpenClaim := { program := "ytepalbldleegiaagreatdoor", sum := "3329cb00331f4a306f9df44e31cdb322910ffe07eae7b78b4f36cd623f06d6a9", func := "chronicle/chroniclelaw23.ShellParses", spec := "shellParses", inPlace := ["internal/abi.NoEscape", "internal/bytealg.IndexByteString", "internal/bytealg.MakeNoZero"], unfollowed := true, recurses := true, named := ["internal/strconv.uint64pow10", "math/bits.deBruijn32tab", "math/bits.deBruijn64tab", "strconv.ErrSyntax", "strconv.ErrRange", "chronicle/wire.uses"], apart := false, laid := [("math/bits.deBruijn32tab", laid_math_bits_deBruijn32tab), ("math/bits.deBruijn64tab", laid_math_bits_deBruijn64tab), ("internal/strconv.uint64pow10", laid_internal_strconv_uint64pow10), ("strconv.ErrRange", laid_strconv_ErrRange), ("strconv.ErrSyntax", laid_strconv_ErrSyntax), ("chronicle/wire.uses", laid_chronicle_wire_uses)], narrowed := true }
def ShellParsesUptoSaid : Prop := shellParsesUptoRow.holds Tryz.pinned (OpenSpec.upto shellParsesSpec)

/-- 'chroniclelaw23.ShellRound', WHERE WHAT IT READS IS OF BULK AT MOST 1048576: true; the input reads as it did. -/
def shellRoundUptoRow : OpenClaim := { program := "ytepalbldleegiaagreatdoor", sum := "3329cb00331f4a306f9df44e31cdb322910ffe07eae7b78b4f36cd623f06d6a9", func := "chronicle/chroniclelaw23.ShellRound", spec := "shellRound", inPlace := ["internal/abi.NoEscape", "internal/bytealg.IndexByteString", "internal/bytealg.MakeNoZero"], unfollowed := true, recurses := true, named := ["internal/strconv.uint64pow10", "math/bits.deBruijn32tab", "math/bits.deBruijn64tab", "strconv.ErrSyntax", "strconv.ErrRange", "chronicle/wire.uses"], apart := false, laid := [("math/bits.deBruijn32tab", laid_math_bits_deBruijn32tab), ("math/bits.deBruijn64tab", laid_math_bits_deBruijn64tab), ("internal/strconv.uint64pow10", laid_internal_strconv_uint64pow10), ("strconv.ErrRange", laid_strconv_ErrRange), ("strconv.ErrSyntax", laid_strconv_ErrSyntax), ("chronicle/wire.uses", laid_chronicle_wire_uses)], narrowed := true }
def ShellRoundUptoSaid : Prop := shellRoundUptoRow.holds Tryz.pinned (OpenSpec.upto shellRoundSpec)

/-- 'chroniclelaw23.ShellBlanks', WHERE WHAT IT READS IS OF BULK AT MOST 1048576: true; the input reads as it did. -/
def shellBlanksUptoRow : OpenClaim := { program := "ytepalbldleegiaagreatdoor", sum := "3329cb00331f4a306f9df44e31cdb322910ffe07eae7b78b4f36cd623f06d6a9", func := "chronicle/chroniclelaw23.ShellBlanks", spec := "shellBlanks", inPlace := ["internal/abi.NoEscape", "internal/bytealg.IndexByteString", "internal/bytealg.MakeNoZero"], unfollowed := true, recurses := true, named := ["internal/strconv.uint64pow10", "math/bits.deBruijn32tab", "math/bits.deBruijn64tab", "strconv.ErrSyntax", "strconv.ErrRange", "chronicle/wire.uses"], apart := false, laid := [("math/bits.deBruijn32tab", laid_math_bits_deBruijn32tab), ("math/bits.deBruijn64tab", laid_math_bits_deBruijn64tab), ("internal/strconv.uint64pow10", laid_internal_strconv_uint64pow10), ("strconv.ErrRange", laid_strconv_ErrRange), ("strconv.ErrSyntax", laid_strconv_ErrSyntax), ("chronicle/wire.uses", laid_chronicle_wire_uses)], narrowed := true }
def ShellBlanksUptoSaid : Prop := shellBlanksUptoRow.holds Tryz.pinned (OpenSpec.upto shellBlanksSpec)

/-- 'chroniclelaw23.ShellTells', WHERE WHAT IT READS IS OF BULK AT MOST 1048576: true; the input reads as it did. -/
def shellTellsUptoRow : OpenClaim := { program := "ytepalbldleegiaagreatdoor", sum := "3329cb00331f4a306f9df44e31cdb322910ffe07eae7b78b4f36cd623f06d6a9", func := "chronicle/chroniclelaw23.ShellTells", spec := "shellTells", inPlace := ["internal/abi.NoEscape", "internal/bytealg.IndexByteString", "internal/bytealg.MakeNoZero"], unfollowed := true, recurses := true, named := ["chronicle/shell.codes", "internal/strconv.uint64pow10", "math/bits.deBruijn32tab", "math/bits.deBruijn64tab", "strconv.ErrSyntax", "strconv.ErrRange", "chronicle/wire.uses"], apart := false, laid := [("math/bits.deBruijn32tab", laid_math_bits_deBruijn32tab), ("math/bits.deBruijn64tab", laid_math_bits_deBruijn64tab), ("internal/strconv.uint64pow10", laid_internal_strconv_uint64pow10), ("strconv.ErrRange", laid_strconv_ErrRange), ("strconv.ErrSyntax", laid_strconv_ErrSyntax), ("chronicle/wire.uses", laid_chronicle_wire_uses), ("chronicle/shell.codes", laid_chronicle_shell_codes)], narrowed := true }
def ShellTellsUptoSaid : Prop := shellTellsUptoRow.holds Tryz.pinned (OpenSpec.upto shellTellsSpec)

end Rows
end Go.Proofs.YtepalbldleegiaaGreatDoor
