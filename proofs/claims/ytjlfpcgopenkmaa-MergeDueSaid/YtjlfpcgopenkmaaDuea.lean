/-
  The saturating sum and product of the program and of the document, walked: each computes the same plain function.
  Conditions: numbers of 0 or more, as the callers hand them.
-/
import Derived.Test.YtjlfpcgopenkmaaRows
import Derived.WalkKit
namespace Go.Proofs.Ytjlfpcgopenkmaa.due
open Go.RowKit

def sadd (a b : Int) : Int := if b ≤ 0 then a else if 9223372036854775807 - b < a then 9223372036854775807 else a + b
def smul (a b : Int) : Int := if a = 0 ∨ b = 0 then 0 else if 9223372036854775807 / b < a then 9223372036854775807 else a * b

theorem ret_int {k : IntKind} {a b : Int} (h : a = b) : Ending.returned (.int k a) = .returned (.int k b) := by rw [h]

theorem sadd_bd (a b : Int) (h0 : 0 ≤ a) (h1 : a ≤ 9223372036854775807) : 0 ≤ sadd a b ∧ sadd a b ≤ 9223372036854775807 := by
  unfold sadd; split
  · omega
  · split <;> omega

theorem added_any (a b : Int) (w : World) (h0 : 0 ≤ a) (h1 : a ≤ 9223372036854775807) (h2 : 0 ≤ b) (h3 : b ≤ 9223372036854775807) :
    Calls Try.prog 17 #[.int .i64 a, .int .i64 b] w fun e w' => e = .returned (.int .i64 (sadd a b)) ∧ w = w' := by
  by_cases c : 9223372036854775807 - b < a
  · go_enter Try.func17, Try.ntmps17
    go_wp2
    go_ret
    exact ⟨ret_int (by unfold sadd; rw [if_neg (by omega), if_pos (by omega)]), rfl⟩
  · go_enter Try.func17, Try.ntmps17
    go_wp2
    go_ret
    exact ⟨ret_int (by unfold sadd; split <;> first | omega | rw [if_neg (by omega)]), rfl⟩

theorem plus_any (a b : Int) (w : World) (h0 : 0 ≤ a) (h1 : a ≤ 9223372036854775807) (h2 : -9223372036854775808 ≤ b) (h3 : b ≤ 9223372036854775807) :
    Calls Try.prog 19 #[.int .i64 a, .int .i64 b] w fun e w' => e = .returned (.int .i64 (sadd a b)) ∧ w = w' := by
  by_cases d : b ≤ 0
  · go_enter Try.func19, Try.ntmps19
    go_wp2
    go_ret
    exact ⟨ret_int (by unfold sadd; rw [if_pos (by omega)]), rfl⟩
  by_cases c : 9223372036854775807 - b < a
  · go_enter Try.func19, Try.ntmps19
    go_wp2
    go_ret
    exact ⟨ret_int (by unfold sadd; rw [if_neg (by omega), if_pos (by omega)]), rfl⟩
  · go_enter Try.func19, Try.ntmps19
    go_wp2
    go_ret
    exact ⟨ret_int (by unfold sadd; rw [if_neg (by omega), if_neg (by omega)]), rfl⟩

theorem mul_fits (a b : Int) (h0 : 0 ≤ a) (h2 : 0 < b) (c : ¬ 9223372036854775807 / b < a) : 0 ≤ a * b ∧ a * b ≤ 9223372036854775807 := by
  have hc : a ≤ 9223372036854775807 / b := by omega
  have := (Int.le_ediv_iff_mul_le h2).1 hc
  exact ⟨Int.mul_nonneg h0 (by omega), this⟩

theorem smul_bd (a b : Int) (h0 : 0 ≤ a) (h2 : 0 ≤ b) : 0 ≤ smul a b ∧ smul a b ≤ 9223372036854775807 := by
  unfold smul; split
  · omega
  · split
    · omega
    · exact mul_fits a b h0 (by omega) ‹_›

theorem times_any (a b : Int) (w : World) (h0 : 0 ≤ a) (h1 : a ≤ 9223372036854775807) (h2 : 0 ≤ b) (h3 : b ≤ 9223372036854775807) :
    Calls Try.prog 18 #[.int .i64 a, .int .i64 b] w fun e w' => e = .returned (.int .i64 (smul a b)) ∧ w = w' := by
  by_cases d : 0 < b
  · by_cases c : 9223372036854775807 / b < a
    · go_enter Try.func18, Try.ntmps18
      go_wp2
      go_ret
      exact ⟨ret_int (by
        have : a ≠ 0 := by
          have := Int.ediv_nonneg (show (0:Int) ≤ 9223372036854775807 by decide) h2
          omega
        unfold smul; rw [if_neg (by omega), if_pos (by omega)]), rfl⟩
    · obtain ⟨m0, m1⟩ := mul_fits a b h0 d c
      go_enter Try.func18, Try.ntmps18
      go_wp2
      go_ret
      refine ⟨ret_int ?_, rfl⟩
      unfold smul
      by_cases ha : a = 0
      · subst ha; simp
      · rw [if_neg (by omega), if_neg (by omega)]
  · obtain rfl : b = 0 := by omega
    go_enter Try.func18, Try.ntmps18
    go_wp2
    go_ret
    exact ⟨ret_int (by simp [smul]), rfl⟩

theorem rtimes_any (a b : Int) (w : World) (h0 : 0 ≤ a) (h1 : a ≤ 9223372036854775807) (h2 : 0 ≤ b) (h3 : b ≤ 9223372036854775807) :
    Calls Try.prog 20 #[.int .i64 a, .int .i64 b] w fun e w' => e = .returned (.int .i64 (smul a b)) ∧ w = w' := by
  by_cases ha : a = 0
  · subst ha
    go_enter Try.func20, Try.ntmps20
    go_wp2
    go_ret
    exact ⟨ret_int (by simp [smul]), rfl⟩
  by_cases d : 0 < b
  · by_cases c : 9223372036854775807 / b < a
    · have ha' : ((a : Int) == 0) = false := by simp [ha]
      have hb' : ((b : Int) == 0) = false := by simp; omega
      go_enter Try.func20, Try.ntmps20
      go_wp2
      go_ret
      exact ⟨ret_int (by unfold smul; rw [if_neg (by omega), if_pos (by omega)]), rfl⟩
    · obtain ⟨m0, m1⟩ := mul_fits a b h0 d c
      have ha' : ((a : Int) == 0) = false := by simp [ha]
      have hb' : ((b : Int) == 0) = false := by simp; omega
      go_enter Try.func20, Try.ntmps20
      go_wp2
      go_ret
      exact ⟨ret_int (by unfold smul; rw [if_neg (by omega), if_neg (by omega)]), rfl⟩
  · obtain rfl : b = 0 := by omega
    have ha' : ((a : Int) == 0) = false := by simp [ha]
    go_enter Try.func20, Try.ntmps20
    go_wp2
    go_ret
    exact ⟨ret_int (by simp [smul]), rfl⟩
end Go.Proofs.Ytjlfpcgopenkmaa.due
