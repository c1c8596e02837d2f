/-
  The law's own example, run through by the kernel.
  Conditions: none.
-/
import Derived.Test.YtepmjghgnhklfaaGreatDoorTbb
namespace Go.Proofs.YtepmjghgnhklfaaGreatDoor.det
open Go Go.RowKit
set_option maxRecDepth 1000000
theorem head_true : okTrue ((run Ek 100000).2 11 [] ⟨.nil, 8, lim⟩) = true := by kernel_rfl
end Go.Proofs.YtepmjghgnhklfaaGreatDoor.det
