/-
  The law, run through by the kernel.
  Conditions: none.
-/
import Derived.Test.YtepmjghgnhklfaaGreatDoorHed
namespace Go.Proofs.YtepmjghgnhklfaaGreatDoor.det
open Go Go.RowKit
set_option maxRecDepth 1000000
noncomputable def Ek2 : Env := ⟨Ek.D, Ek.G, Ek.fns, Ek.sums.set 64 11 (some closedS)⟩
theorem env2 : EnvOk Ek2 Tryz.prog := env.plus (by decide) (closedS_ok (of_run env (n := 100000) (G := 8) rfl (by decide) head_true))
theorem run_true : okTrue ((run Ek2 100000).2 3 [] ⟨.nil, 8, lim⟩) = true := by kernel_rfl
theorem law_true (W : World) : Calls Tryz.prog 3 #[] W fun e W' => e = .returned (.bool true) ∧ Below W.heap.size W W' :=
  (of_run env2 (n := 100000) (G := 8) rfl (by decide) run_true W).2
#print axioms law_true
end Go.Proofs.YtepmjghgnhklfaaGreatDoor.det
