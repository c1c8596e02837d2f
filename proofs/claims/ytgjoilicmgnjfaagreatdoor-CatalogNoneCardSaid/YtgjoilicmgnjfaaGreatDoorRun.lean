/-
  The law, run through by the kernel.
  Conditions: none.
-/
import Derived.Test.YtgjoilicmgnjfaaGreatDoorTbb
import Derived.Test.YtgjoilicmgnjfaaGreatDoorDe
namespace Go.Proofs.YtgjoilicmgnjfaaGreatDoor.det
open Go Go.RowKit
set_option maxRecDepth 1000000
theorem run_true : (match (run Ek 100000).2 3 [] ⟨.nil, 8, lim⟩ with | some (.bool true, _) => true | _ => false) = true := by kernel_rfl
theorem law_true (W : World) : Calls Tryz.prog 3 #[] W fun e W' => e = .returned (.bool true) ∧ Below W.heap.size W W' :=
  of_run env (n := 100000) (G := 8) rfl (by decide) run_true W
#print axioms law_true
end Go.Proofs.YtgjoilicmgnjfaaGreatDoor.det
