/-
  A list of no name or one, sorted: walked; a list of no number, sorted.
  Conditions: none.
-/
import Derived.Test.YtjmhpmhadaenjabGreatDoorFkb
namespace Go.Proofs.YtjmhpmhadaenjabGreatDoor.fk
open Go.RowKit Go.Maps Go.WideMaps
set_option maxRecDepth 100000

theorem ins_str (v : Value) (b : Int) (hb : b ≤ 1) (w : World) : Calls Tryz.prog 226 #[v, .int .i64 0, .int .i64 b] w fun e w' => e = .returned (.tuple #[]) ∧ w = w' := by
  have hb' : ¬ 1 < b := by omega
  go_enter Tryz.func226, Tryz.ntmps226
  go_wp2
  refine wp_loop_rounds 1 ?_
  rw [rounds_succ]
  go_wp2
  go_end0
  exact ⟨rfl, rfl⟩
theorem ins_int (v : Value) (b : Int) (hb : b ≤ 1) (w : World) : Calls Tryz.prog 125 #[v, .int .i64 0, .int .i64 b] w fun e w' => e = .returned (.tuple #[]) ∧ w = w' := by
  have hb' : ¬ 1 < b := by omega
  go_enter Tryz.func125, Tryz.ntmps125
  go_wp2
  refine wp_loop_rounds 1 ?_
  rw [rounds_succ]
  go_wp2
  go_end0
  exact ⟨rfl, rfl⟩
def SomeI (w : World) (e : Ending) (w' : World) : Prop := ∃ n : Int, e = .returned (.int .i64 n) ∧ w = w'
theorem len_0 (w : World) : Calls Tryz.prog 78 #[.int .u64 0] w (SomeI w) := by
  go_enter Tryz.func78, Tryz.ntmps78
  go_wp2
  go_ret
  exact ⟨_, rfl, rfl⟩
theorem len_1 (w : World) : Calls Tryz.prog 78 #[.int .u64 1] w (SomeI w) := by
  go_enter Tryz.func78, Tryz.ntmps78
  go_wp2
  go_ret
  exact ⟨_, rfl, rfl⟩
theorem pdq_str (v : Value) (b l : Int) (h0 : 0 ≤ b) (hb : b ≤ 1) (w : World) : Calls Tryz.prog 138 #[v, .int .i64 0, .int .i64 b, .int .i64 l] w fun e w' => e = .returned (.tuple #[]) ∧ w = w' := by
  have hb' : b ≤ 12 := by omega
  go_enter Tryz.func138, Tryz.ntmps138
  go_wp2_with fail
  refine wp_loop_rounds 1 ?_
  rw [rounds_succ]
  go_wp2_with (go_at_call 226; refine (ins_str _ _ hb _).mono ?_; rintro e w1 ⟨rfl, rfl⟩)
  refine bodyPost_ret (results_none rfl _ _ _) rfl ?_
  exact ⟨rfl, rfl⟩
theorem pdq_int (v : Value) (b l : Int) (h0 : 0 ≤ b) (hb : b ≤ 1) (w : World) : Calls Tryz.prog 77 #[v, .int .i64 0, .int .i64 b, .int .i64 l] w fun e w' => e = .returned (.tuple #[]) ∧ w = w' := by
  have hb' : b ≤ 12 := by omega
  go_enter Tryz.func77, Tryz.ntmps77
  go_wp2_with fail
  refine wp_loop_rounds 1 ?_
  rw [rounds_succ]
  go_wp2_with (go_at_call 125; refine (ins_int _ _ hb _).mono ?_; rintro e w1 ⟨rfl, rfl⟩)
  refine bodyPost_ret (results_none rfl _ _ _) rfl ?_
  exact ⟨rfl, rfl⟩
theorem sort_ints0 (w : World) : Calls Tryz.prog 47 #[.slice none 0 0] w fun e w' => e = .returned (.tuple #[]) ∧ w = w' := by
  go_enter Tryz.func47, Tryz.ntmps47
  go_wp2_with (first | (go_at_call 78; refine (len_0 _).mono ?_; rintro e w1 ⟨l, rfl, rfl⟩) | (go_at_call 77; refine (pdq_int _ _ _ (by omega) (by omega) _).mono ?_; rintro e w1 ⟨rfl, rfl⟩))
  go_end0
  exact ⟨rfl, rfl⟩
theorem sort_strs0 (w : World) : Calls Tryz.prog 84 #[.slice none 0 0] w fun e w' => e = .returned (.tuple #[]) ∧ w = w' := by
  go_enter Tryz.func84, Tryz.ntmps84
  go_wp2_with (first | (go_at_call 78; refine (len_0 _).mono ?_; rintro e w1 ⟨l, rfl, rfl⟩) | (go_at_call 138; refine (pdq_str _ _ _ (by omega) (by omega) _).mono ?_; rintro e w1 ⟨rfl, rfl⟩))
  go_end0
  exact ⟨rfl, rfl⟩
theorem sort_strs1 (A : Option Addr) (c : Nat) (w : World) : Calls Tryz.prog 84 #[.slice A 1 c] w fun e w' => e = .returned (.tuple #[]) ∧ w = w' := by
  go_enter Tryz.func84, Tryz.ntmps84
  go_wp2_with (first | (go_at_call 78; refine (len_1 _).mono ?_; rintro e w1 ⟨l, rfl, rfl⟩) | (go_at_call 138; refine (pdq_str _ _ _ (by omega) (by omega) _).mono ?_; rintro e w1 ⟨rfl, rfl⟩))
  go_end0
  exact ⟨rfl, rfl⟩
end Go.Proofs.YtjmhpmhadaenjabGreatDoor.fk
