/-
  Single bytes walked: may a byte stand in a text without quotes; a byte as two digits.
  Conditions: none.
-/
import Derived.Test.YtepalbldleegiaaGreatDoorSha
import Derived.Test.YtepalbldleegiaaGreatDoorProg
import Derived.WalkKit
import Derived.BigQuiet
import Derived.Lib.Hide
namespace Go.Proofs.YtepalbldleegiaaGreatDoor.sh
open Go.RowKit

/-- a text as the machine holds it -/
def S (s : Bs) : ByteArray := ⟨s.toArray⟩
theorem ret_bool {a b : Bool} (h : a = b) : Ending.returned (.bool a) = .returned (.bool b) := by rw [h]
theorem ret_str {a b : ByteArray} (h : a = b) : Ending.returned (.string a) = .returned (.string b) := by rw [h]
def u8v (c : UInt8) : Value := .int .u8 (c.toNat : Int)
def bareN (n : Int) : Bool := decide (97 ≤ n ∧ n ≤ 122) || decide (65 ≤ n ∧ n ≤ 90) || decide (48 ≤ n ∧ n ≤ 57) || decide (n = 46) || decide (n = 95) || decide (n = 45)
theorem bareN_eq : ∀ c : UInt8, bareN (c.toNat : Int) = bareB c := by
  have h : ∀ i : Fin 256, bareN (i.val : Int) = bareB (UInt8.ofNat i.val) := by decide +kernel
  intro c
  have := h ⟨c.toNat, c.toNat_lt⟩
  simpa using this
theorem bare_any (n : Int) (h : 0 ≤ n ∧ n ≤ 255) (w : World) : Calls Tryz.prog 75 #[.int .u8 n] w fun e w' => e = .returned (.bool (bareN n)) ∧ w = w' := by
  rcases (by omega : n < 45 ∨ n = 45 ∨ n = 46 ∨ n = 47 ∨ (48 ≤ n ∧ n ≤ 57) ∨ (58 ≤ n ∧ n ≤ 64) ∨ (65 ≤ n ∧ n ≤ 90) ∨ (91 ≤ n ∧ n ≤ 94) ∨ n = 95 ∨ n = 96 ∨ (97 ≤ n ∧ n ≤ 122) ∨ 122 < n) with c | rfl | rfl | rfl | c | c | c | c | rfl | rfl | c | c
  all_goals
    go_enter Tryz.func75, Tryz.ntmps75
    go_wp2
    go_ret
    exact ⟨ret_bool (by unfold bareN; first | rfl | (rw [Bool.eq_iff_iff]; simp only [Bool.or_eq_true, decide_eq_true_eq, beq_iff_eq]; omega) | (rw [Bool.eq_iff_iff]; simp; omega)), rfl⟩
theorem plain_any (n : Int) (h : 0 ≤ n ∧ n ≤ 255) (w : World) : Calls Tryz.prog 87 #[.int .u8 n] w fun e w' => e = .returned (.bool (bareN n)) ∧ w = w' := by
  rcases (by omega : n < 45 ∨ n = 45 ∨ n = 46 ∨ n = 47 ∨ (48 ≤ n ∧ n ≤ 57) ∨ (58 ≤ n ∧ n ≤ 64) ∨ (65 ≤ n ∧ n ≤ 90) ∨ (91 ≤ n ∧ n ≤ 94) ∨ n = 95 ∨ n = 96 ∨ (97 ≤ n ∧ n ≤ 122) ∨ 122 < n) with c | rfl | rfl | rfl | c | c | c | c | rfl | rfl | c | c
  all_goals
    go_enter Tryz.func87, Tryz.ntmps87
    go_wp2
    go_ret
    exact ⟨ret_bool (by unfold bareN; first | rfl | (rw [Bool.eq_iff_iff]; simp only [Bool.or_eq_true, decide_eq_true_eq, beq_iff_eq]; omega) | (rw [Bool.eq_iff_iff]; simp; omega)), rfl⟩
end Go.Proofs.YtepalbldleegiaaGreatDoor.sh
