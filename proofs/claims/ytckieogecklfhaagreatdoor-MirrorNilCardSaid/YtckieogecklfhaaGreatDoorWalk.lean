/-
  Each call on a nil mirror, walked: MirrorNil answers true and turns nothing that was there.
  No condition.
-/
import Derived.Test.YtckieogecklfhaaGreatDoorRows
import Derived.WalkKit
import Derived.WalkSpells
import Derived.WalkLawsBesides
namespace Go.Proofs.YtckieogecklfhaaGreatDoor.mirrorNil
open Go.RowKit
set_option maxRecDepth 100000
theorem lost (w : World) : Calls Tryz.prog 4 #[.pointer none] w fun e w' => e = .returned (.tuple #[]) ∧ w = w' := by
  go_enter Tryz.func4, Tryz.ntmps4
  go_wp2
  first | go_end0 | refine bodyPost_ret (results_none rfl _ _ _) rfl ?_
  exact ⟨rfl, rfl⟩
theorem state (w : World) : Calls Tryz.prog 8 #[.pointer none] w fun e w' => e = .returned (.agg #[.int .i64 0, .int .i64 0, .int .i64 0, .int .i64 0]) ∧ Below w.heap.size w w' := by
  go_enter Tryz.func8, Tryz.ntmps8
  go_wp2
  refine bodyPost_ret (v := .agg #[.int .i64 0, .int .i64 0, .int .i64 0, .int .i64 0]) (by simp [results, Tryz.results8, go_sem]) rfl ⟨rfl, ?_⟩
  repeat (first | exact Below.refl _ _ | apply Below.drew | refine Below.alloc ?_ (by simp) _ | refine Below.setCell ?_ (by simp) _)
theorem walk (a : Int) (v1 : Value) (w : World) :
    Calls Tryz.prog 3 #[.int .i64 a, v1] w fun e w' => e = .returned (.bool true) ∧ Below w.heap.size w w' := by
  go_enter Tryz.func3, Tryz.ntmps3
  go_wp2_with (go_at_call 4; refine (lost _).mono ?_; rintro e w1 ⟨rfl, rfl⟩)
  go_wp2_with (first | (go_at_call 8; refine (state _).mono ?_; rintro e w1 ⟨rfl, hb1⟩) | go_in)
  have hs1 := hb1.size
  go_ret
  refine ⟨rfl, ?_⟩
  repeat (first | exact hb1 | apply Below.drew | refine Below.alloc ?_ (by simp <;> omega) _ | refine Below.setCell ?_ (by simp <;> omega) _)
end Go.Proofs.YtckieogecklfhaaGreatDoor.mirrorNil
