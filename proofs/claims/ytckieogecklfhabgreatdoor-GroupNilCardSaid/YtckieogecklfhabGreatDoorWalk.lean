/-
  Each call on nil groups, walked: GroupNil answers true and turns nothing that was there.
  No condition.
-/
import Derived.Test.YtckieogecklfhabGreatDoorRows
import Derived.WalkKit
import Derived.WalkSpells
import Derived.WalkLawsBesides
namespace Go.Proofs.YtckieogecklfhabGreatDoor.groupNil
open Go.RowKit
set_option maxRecDepth 100000
theorem at_nil (u v : Value) (w : World) : Calls Tryz.prog 7 #[.pointer none, u, v] w fun e w' => e = .returned (.tuple #[.int .i64 0, .bool false, .int .i64 1]) ∧ w = w' := by
  go_enter Tryz.func7, Tryz.ntmps7
  go_wp2
  go_ret3
  exact ⟨rfl, rfl⟩
theorem gen_nil (u : Value) (w : World) : Calls Tryz.prog 8 #[.pointer none, u] w fun e w' => e = .returned (.tuple #[.int .i64 0, .bool false, .int .i64 1]) ∧ w = w' := by
  go_enter Tryz.func8, Tryz.ntmps8
  go_wp2
  go_ret3
  exact ⟨rfl, rfl⟩
theorem walk (v0 v1 v2 v3 v4 v5 v6 : Value) (w : World) :
    Calls Tryz.prog 3 #[.agg #[v0, v1, v2, v3, v4, v5, v6]] w fun e w' => e = .returned (.bool true) ∧ Below w.heap.size w w' := by
  go_enter Tryz.func3, Tryz.ntmps3
  go_wp2_with (first | (go_at_call 7; refine (at_nil _ _ _).mono ?_; rintro e w1 ⟨rfl, rfl⟩) | (go_at_call 8; refine (gen_nil _ _).mono ?_; rintro e w1 ⟨rfl, rfl⟩) | go_in)
  all_goals
    go_ret
    exact ⟨rfl, (((Below.refl _ _).alloc (Nat.le_refl _) _).alloc (by simp) _).alloc (by simp <;> omega) _⟩
end Go.Proofs.YtckieogecklfhabGreatDoor.groupNil
