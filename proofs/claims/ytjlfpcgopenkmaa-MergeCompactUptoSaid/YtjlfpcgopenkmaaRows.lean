/-
  No cell of these rows narrows 'for every input' (looked for: loops, veiled, ifaces, maps, wideKeys, modest, calm, conditions, laid).
  DERIVED. THE GIVEN ROWS OF THIS SEAT. 3 by the template 'for every input the law returns true; each argument reads behind the call as it read before'; 0 by the template 'total and deterministic' (their statements: YtjlfpcgopenkmaaTotals.lean).
  GIVEN WITH THE SEED: the statements are not yours to turn. If you find one false, say at which input.
  Laid BY PROGRAM, IN A SANDBOX (cutbox-rows.mjs): the forced cells as the released guide's own fill.sh prints them over the translation dd253353bd02f285… (all of the seat's roots in one cut). By AI agents, Wed Nov 11 2026. No macro, syntax, notation, axiom, sorry.
-/
import Derived.Test.YtjlfpcgopenkmaaChecked
import GoSem.Claim
import GoSem.ClaimJoined
import GoSem.ClaimMapViews
import Derived.JoinedTies
import Derived.KernelRfl
namespace Go.Proofs.Ytjlfpcgopenkmaa
/- THE CELL 'sum', in the pinned program and in every row, IS THE sha256 OF THE DUMP (.gsa) THAT YtjlfpcgopenkmaaProg.lean LOADS. Nothing in Lean hashes anything: it is a label: what it is worth is what the hold of that sum in a sandbox is worth. -/
noncomputable def Try.pinned : Pinned := { name := "ytjlfpcgopenkmaa", sum := "dd253353bd02f2851903c3368b5fe552d100735a991f3f05fd538b3a0a38a167", checked := Try.checked }
namespace Rows
def none {H : Type} : Left H := { results := [], args := [] }

/-- 'chroniclelaw11.MergeSteps': WHATEVER THE INPUT: true; the input reads as it did. -/
def mergeStepsSpec : ChangeSpec := { name := "mergeSteps", fn := fun _ => fun
  | [d1, d2] => { results := [.lit (.bool true)], args := [d1, d2] }
  | _ => none }
def mergeStepsRow : OpenClaim := { program := "ytjlfpcgopenkmaa", sum := "dd253353bd02f2851903c3368b5fe552d100735a991f3f05fd538b3a0a38a167", func := "chronicle/chroniclelaw11.MergeSteps", spec := "mergeSteps", apart := false }
def MergeStepsSaid : Prop := mergeStepsRow.holds Try.pinned (OpenSpec.ofChange mergeStepsSpec)

/-- ITS FALSE NEIGHBOUR: 'it returns false'. Refute it at one input. -/
def mergeStepsWrong : ChangeSpec := { name := "mergeSteps", fn := fun _ => fun
  | [d1, d2] => { results := [.lit (.bool false)], args := [d1, d2] }
  | _ => none }
def MergeStepsWrongFalsely : Prop := mergeStepsRow.holds Try.pinned (OpenSpec.ofChange mergeStepsWrong)

/-- 'chroniclelaw11.MergeDue': WHATEVER THE INPUT: true; the input reads as it did. -/
def mergeDueSpec : ChangeSpec := { name := "mergeDue", fn := fun _ => fun
  | [d1, d2] => { results := [.lit (.bool true)], args := [d1, d2] }
  | _ => none }
def mergeDueRow : OpenClaim := { program := "ytjlfpcgopenkmaa", sum := "dd253353bd02f2851903c3368b5fe552d100735a991f3f05fd538b3a0a38a167", func := "chronicle/chroniclelaw11.MergeDue", spec := "mergeDue", apart := false }
def MergeDueSaid : Prop := mergeDueRow.holds Try.pinned (OpenSpec.ofChange mergeDueSpec)

/-- ITS FALSE NEIGHBOUR: 'it returns false'. Refute it at one input. -/
def mergeDueWrong : ChangeSpec := { name := "mergeDue", fn := fun _ => fun
  | [d1, d2] => { results := [.lit (.bool false)], args := [d1, d2] }
  | _ => none }
def MergeDueWrongFalsely : Prop := mergeDueRow.holds Try.pinned (OpenSpec.ofChange mergeDueWrong)

/-- 'chroniclelaw11.MergeCompact': WHATEVER THE INPUT: true; the input reads as it did. -/
def mergeCompactSpec : ChangeSpec := { name := "mergeCompact", fn := fun _ => fun
  | [d1, d2, d3, d4] => { results := [.lit (.bool true)], args := [d1, d2, d3, d4] }
  | _ => none }
def mergeCompactRow : OpenClaim := { program := "ytjlfpcgopenkmaa", sum := "dd253353bd02f2851903c3368b5fe552d100735a991f3f05fd538b3a0a38a167", func := "chronicle/chroniclelaw11.MergeCompact", spec := "mergeCompact", apart := false }
def MergeCompactSaid : Prop := mergeCompactRow.holds Try.pinned (OpenSpec.ofChange mergeCompactSpec)

/-- ITS FALSE NEIGHBOUR: 'it returns false'. Refute it at one input. -/
def mergeCompactWrong : ChangeSpec := { name := "mergeCompact", fn := fun _ => fun
  | [d1, d2, d3, d4] => { results := [.lit (.bool false)], args := [d1, d2, d3, d4] }
  | _ => none }
def MergeCompactWrongFalsely : Prop := mergeCompactRow.holds Try.pinned (OpenSpec.ofChange mergeCompactWrong)

/- THE SECOND FORM. 'bulk': how many values and letters a reading holds, each counted each time it is reached (what is shared counts as often as it is met; a slice's spare places count too). A statement '..UptoSaid' is the law's where the arguments, and the package variables that the reading takes, are together of bulk at most 1048576: NARROWER than '..Said'. Prove '..Said' where nothing that the law and all that it calls make is longer than what came in: it says more and counts as full. Else prove '..UptoSaid'. A law counts once. -/
mutual
def uptoBulk {H : Type} : DataW H → Nat
  | .lit (.string bytes) => bytes.length + 1
  | .lit _ => 1
  | .nil => 1
  | .ptr d => uptoBulk d + 1
  | .slice elems spare => uptoBulkAll elems + uptoBulkAll spare + 1
  | .agg parts => uptoBulkAll parts + 1
  | .iface _ d => uptoBulk d + 1
  | .map entries => uptoBulkEntries entries + 1
  | .held _ => 1
def uptoBulkAll {H : Type} : List (DataW H) → Nat
  | [] => 0
  | d :: r => uptoBulk d + uptoBulkAll r
def uptoBulkEntries {H : Type} : List (Lit × DataW H) → Nat
  | [] => 0
  | x :: r => uptoBulkEntry x + uptoBulkEntries r
def uptoBulkEntry {H : Type} : Lit × DataW H → Nat
  | (.string bytes, d) => bytes.length + uptoBulk d + 1
  | (_, d) => uptoBulk d + 1
 end
def uptoSmall : (H : Type) → List (DataW H) → Bool := fun _ ds => decide (uptoBulkAll ds ≤ 1048576)
def OpenSpec.upto (s : _root_.Go.ChangeSpec) : _root_.Go.OpenSpec := { _root_.Go.OpenSpec.ofChange s with cond := some uptoSmall }

/-- 'chroniclelaw11.MergeSteps', WHERE WHAT IT READS IS OF BULK AT MOST 1048576: true; the input reads as it did. -/
def mergeStepsUptoRow : OpenClaim := { program := "ytjlfpcgopenkmaa", sum := "dd253353bd02f2851903c3368b5fe552d100735a991f3f05fd538b3a0a38a167", func := "chronicle/chroniclelaw11.MergeSteps", spec := "mergeSteps", apart := false, narrowed := true }
def MergeStepsUptoSaid : Prop := mergeStepsUptoRow.holds Try.pinned (OpenSpec.upto mergeStepsSpec)

/-- 'chroniclelaw11.MergeDue', WHERE WHAT IT READS IS OF BULK AT MOST 1048576: true; the input reads as it did. -/
def mergeDueUptoRow : OpenClaim := { program := "ytjlfpcgopenkmaa", sum := "dd253353bd02f2851903c3368b5fe552d100735a991f3f05fd538b3a0a38a167", func := "chronicle/chroniclelaw11.MergeDue", spec := "mergeDue", apart := false, narrowed := true }
def MergeDueUptoSaid : Prop := mergeDueUptoRow.holds Try.pinned (OpenSpec.upto mergeDueSpec)

/-- 'chroniclelaw11.MergeCompact', WHERE WHAT IT READS IS OF BULK AT MOST 1048576: true; the input reads as it did. -/
def mergeCompactUptoRow : OpenClaim := { program := "ytjlfpcgopenkmaa", sum := "dd253353bd02f2851903c3368b5fe552d100735a991f3f05fd538b3a0a38a167", func := "chronicle/chroniclelaw11.MergeCompact", spec := "mergeCompact", apart := false, narrowed := true }
def MergeCompactUptoSaid : Prop := mergeCompactUptoRow.holds Try.pinned (OpenSpec.upto mergeCompactSpec)

end Rows
end Go.Proofs.Ytjlfpcgopenkmaa
