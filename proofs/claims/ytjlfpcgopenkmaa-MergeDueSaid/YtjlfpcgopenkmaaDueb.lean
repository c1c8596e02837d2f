/-
  merge.Due and the document's Due, walked over a row of numbers in memory: both answer the same plain function.
  Conditions: the row lies below the heap's end; a share that is an int.
-/
import Derived.Test.YtjlfpcgopenkmaaDuea
import Derived.Lib.Hide
namespace Go.Proofs.Ytjlfpcgopenkmaa.due
open Go.RowKit

/-- a row of n segments' numbers at (b, off): number j of segment i is f i j -/
def Stats (w : World) (B : Nat) (A : Option Addr) (n : Nat) (f : Nat → Nat → Int) : Prop :=
  0 < n → ∃ b off, A = some ⟨b, off, none⟩ ∧ b < B ∧ ∀ i, i < n → ∀ j, j < 5 → w.cell? ⟨b, off + i * 5 + j, none⟩ = some (.int .i64 (f i j))

/-- all of it are ints -/
def Ints (n : Nat) (f : Nat → Nat → Int) : Prop := ∀ i, i < n → ∀ j, j < 5 → -9223372036854775808 ≤ f i j ∧ f i j ≤ 9223372036854775807

def sum (j : Nat) (f : Nat → Nat → Int) : Nat → Int
  | 0 => 0
  | k + 1 => sadd (sum j f k) (f k j)

theorem sum_bd (j : Nat) (f : Nat → Nat → Int) : ∀ k, 0 ≤ sum j f k ∧ sum j f k ≤ 9223372036854775807
  | 0 => by simp [sum]
  | k + 1 => sadd_bd _ _ (sum_bd j f k).1 (sum_bd j f k).2

def clamp (s : Int) : Int := if s < 0 then 0 else if 100 < s then 100 else s
def dueB (b l s : Int) : Bool := decide (0 < b) && decide (l ≤ b) && decide (smul (clamp s) b ≤ smul (b - l) 100)

theorem sadd_max (a b : Int) : sadd a (max b 0) = sadd a b := by
  unfold sadd
  by_cases h : b ≤ 0
  · rw [Int.max_eq_right h]; simp [h]
  · rw [Int.max_eq_left (by omega)]

theorem ret_bool {a b : Bool} (h : a = b) : Ending.returned (.bool a) = .returned (.bool b) := by rw [h]
theorem dueB_no {B L s : Int} (h : B ≤ 0 ∨ B < L) : dueB B L s = false := by
  unfold dueB
  rcases h with h | h
  · rw [decide_eq_false (by omega : ¬ 0 < B)]; rfl
  · rw [decide_eq_false (by omega : ¬ L ≤ B)]; simp
theorem dueB_yes {B L s c : Int} (h1 : 0 < B) (h2 : L ≤ B) (hc : clamp s = c) : dueB B L s = decide (smul c B ≤ smul (B - L) 100) := by
  unfold dueB
  rw [decide_eq_true h1, decide_eq_true h2, hc]; rfl
theorem sadd_neg {a b : Int} (h : b ≤ 0) : sadd a b = a := by unfold sadd; rw [if_pos h]

set_option maxHeartbeats 400000 in
theorem due_any (A : Option Addr) (n c : Nat) (f : Nat → Nat → Int) (s : Int) (w : World) (h : Stats w w.heap.size A n f) (hi : Ints n f) (hn : n ≤ 9223372036854775807) :
    Calls Try.prog 8 #[.slice A n c, .int .i64 s] w fun e w' => e = .returned (.bool (dueB (sum 3 f n) (sum 4 f n) s)) ∧ Below w.heap.size w w' := by
  go_enter Try.func8, Try.ntmps8
  go_wp2
  go_loopw [5, 6, 11] (fun b l i wr => ∃ k : Nat, k ≤ n ∧ i = .int .i64 k ∧ b = .int .i64 (sum 3 f k) ∧ l = .int .i64 (sum 4 f k) ∧ Below w.heap.size w wr) (fun _ _ i _ => n - (intOf i).toNat)
  case atStart => exact ⟨0, Nat.zero_le _, rfl, rfl, rfl, Below.refl _ _⟩
  case round =>
    obtain ⟨k, hk, rfl, rfl, rfl, hb⟩ := hrel
    by_cases hlt : k < n
    · obtain ⟨b, off, rfl, hB, hc⟩ := h (by omega)
      have hi := hi k hlt
      have c0 := (hb.cell (p := ⟨b, off + k * 5 + 0, none⟩) hB).trans (hc k hlt 0 (by omega))
      have c1 := (hb.cell (p := ⟨b, off + k * 5 + 1, none⟩) hB).trans (hc k hlt 1 (by omega))
      have c2 := (hb.cell (p := ⟨b, off + k * 5 + 2, none⟩) hB).trans (hc k hlt 2 (by omega))
      have c3 := (hb.cell (p := ⟨b, off + k * 5 + 3, none⟩) hB).trans (hc k hlt 3 (by omega))
      have c4 := (hb.cell (p := ⟨b, off + k * 5 + 4, none⟩) hB).trans (hc k hlt 4 (by omega))
      rw [Nat.add_zero] at c0
      obtain ⟨i3, j3⟩ := hi 3 (by omega)
      obtain ⟨i4, j4⟩ := hi 4 (by omega)
      obtain ⟨s3, t3⟩ := sum_bd 3 f k
      obtain ⟨s4, t4⟩ := sum_bd 4 f k
      clear hc hi h
      have e3 : ∀ x, (x = f k 3 ∨ (x = 0 ∧ f k 3 ≤ 0)) → sadd (sum 3 f k) x = sum 3 f (k + 1) := fun x hx => by
        rcases hx with rfl | ⟨rfl, h⟩
        · rfl
        · show _ = sadd _ _; rw [sadd_neg h, sadd_neg (Int.le_refl 0)]
      have e4 : ∀ x, (x = f k 4 ∨ (x = 0 ∧ f k 4 ≤ 0)) → sadd (sum 4 f k) x = sum 4 f (k + 1) := fun x hx => by
        rcases hx with rfl | ⟨rfl, h⟩
        · rfl
        · show _ = sadd _ _; rw [sadd_neg h, sadd_neg (Int.le_refl 0)]
      have E3 := Lib.hid e3
      have E4 := Lib.hid e4
      clear e3 e4
      go_wp2_with fail
      all_goals
        refine (added_any _ _ _ s3 t3 (by omega) (by omega)).mono ?_
        rintro e w1 ⟨rfl, rfl⟩
        go_wp2_with fail
      all_goals
        refine (added_any _ _ _ s4 t4 (by omega) (by omega)).mono ?_
        rintro e w2 ⟨rfl, rfl⟩
        go_wp2_with fail
      all_goals
        go_roundw
        case rel => exact ⟨k + 1, by omega, by go_num, by rw [E3.out _ (by omega)], by rw [E4.out _ (by omega)], hb.alloc hb.size _⟩
        case measure => simp [intOf]; omega
    · obtain rfl : k = n := by omega
      obtain ⟨s3, t3⟩ := sum_bd 3 f k
      obtain ⟨s4, t4⟩ := sum_bd 4 f k
      clear h hi
      go_wp2_with fail
      all_goals first
        | (refine (times_any _ _ _ (by omega) (by omega) (by omega) (by omega)).mono ?_
           rintro e w1 ⟨rfl, rfl⟩
           go_wp2_with fail
           refine (times_any _ _ _ (by omega) (by omega) (by omega) (by omega)).mono ?_
           rintro e w1 ⟨rfl, rfl⟩
           go_wp2_with fail
           go_ret
           refine ⟨ret_bool ?_, hb⟩
           exact (dueB_yes (by omega) (by omega) (by unfold clamp; omega)).symm)
        | (go_ret
           exact ⟨ret_bool (dueB_no (by omega)).symm, hb⟩)
end Go.Proofs.Ytjlfpcgopenkmaa.due
