/-
  The document's Due, walked over a row of numbers in memory: it answers the same plain function as merge.Due.
  Conditions: the row lies below the heap's end; a share that is an int.
-/
import Derived.Test.YtjlfpcgopenkmaaDueb
namespace Go.Proofs.Ytjlfpcgopenkmaa.due
open Go.RowKit

set_option maxHeartbeats 400000 in
theorem rdue_any (A : Option Addr) (n c : Nat) (f : Nat → Nat → Int) (s : Int) (B : Nat) (w : World) (h : Stats w B A n f) (hi : Ints n f) (hn : n ≤ 9223372036854775807) :
    Calls Try.prog 9 #[.slice A n c, .int .i64 s] w fun e w' => e = .returned (.bool (dueB (sum 3 f n) (sum 4 f n) s)) ∧ w = w' := by
  go_enter Try.func9, Try.ntmps9
  go_wp2
  go_loop [5, 6, 7] (fun b l i => ∃ k : Nat, k ≤ n ∧ i = .int .i64 k ∧ b = .int .i64 (sum 3 f k) ∧ l = .int .i64 (sum 4 f k)) (fun _ _ i => n - (intOf i).toNat)
  case atStart => exact ⟨0, Nat.zero_le _, rfl, rfl, rfl⟩
  case round =>
    obtain ⟨k, hk, rfl, rfl, rfl⟩ := hrel
    by_cases hlt : k < n
    · obtain ⟨b, off, rfl, hB, hc⟩ := h (by omega)
      have hi := hi k hlt
      have c3 := hc k hlt 3 (by omega)
      have c4 := hc k hlt 4 (by omega)
      obtain ⟨i3, j3⟩ := hi 3 (by omega)
      obtain ⟨i4, j4⟩ := hi 4 (by omega)
      obtain ⟨s3, t3⟩ := sum_bd 3 f k
      obtain ⟨s4, t4⟩ := sum_bd 4 f k
      clear hc hi h
      go_wp2_with fail
      refine (plus_any _ _ _ s3 t3 i3 j3).mono ?_
      rintro e w1 ⟨rfl, rfl⟩
      go_wp2_with fail
      refine (plus_any _ _ _ s4 t4 i4 j4).mono ?_
      rintro e w2 ⟨rfl, rfl⟩
      go_wp2_with fail
      go_round
      case rel => exact ⟨k + 1, by omega, by go_num, rfl, rfl⟩
      case measure => simp [intOf]; omega
    · obtain rfl : k = n := by omega
      obtain ⟨s3, t3⟩ := sum_bd 3 f k
      obtain ⟨s4, t4⟩ := sum_bd 4 f k
      clear h hi
      by_cases z : sum 3 f k ≤ 0
      · have zt : ((sum 3 f k : Int) == 0) = true := by rw [beq_iff_eq]; omega
        go_wp2_with fail
        all_goals
          go_ret
          exact ⟨ret_bool (dueB_no (by omega)).symm, rfl⟩
      · have zt : ((sum 3 f k : Int) == 0) = false := by rw [beq_eq_false_iff_ne]; omega
        have z0 : 0 < sum 3 f k := by omega
        clear z
        by_cases l : sum 4 f k ≤ sum 3 f k
        · go_wp2_with fail
          all_goals
            refine (rtimes_any _ _ _ (by omega) (by omega) (by omega) (by omega)).mono ?_
            rintro e w1 ⟨rfl, rfl⟩
            go_wp2_with fail
            refine (rtimes_any _ _ _ (by omega) (by omega) (by omega) (by omega)).mono ?_
            rintro e w1 ⟨rfl, rfl⟩
            go_wp2_with fail
            go_ret
            refine ⟨ret_bool ?_, rfl⟩
            exact (dueB_yes (by omega) (by omega) (by unfold clamp; omega)).symm
        · go_wp2_with fail
          all_goals
            go_ret
            exact ⟨ret_bool (dueB_no (by omega)).symm, rfl⟩
end Go.Proofs.Ytjlfpcgopenkmaa.due
