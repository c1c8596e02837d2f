/-
  The document's number, the words of operations and codes walked.
  Conditions: a number is an int64.
-/
import Derived.Test.YtepalbldleegiaaGreatDoorSwb
namespace Go.Proofs.YtepalbldleegiaaGreatDoor.sh
open Go.RowKit
open Go.Lib (itoa decDigits)

theorem digits_int (x : Int) (m : Nat) (hx : x = m) (hm : U64 m) (w : World) : Calls Tryz.prog 64 #[.int .u64 x] w fun e w' => e = .returned (.string (S (decDigits m))) ∧ Below w.heap.size w w' := by
  subst hx
  exact digits_any m hm w
theorem dec_len20 {m : Nat} (h : U64 m) : (decDigits m).length ≤ 20 := dec_len 19 _ (Nat.lt_trans h (by decide))
theorem itoa_len {n : Int} (h0 : -9223372036854775808 ≤ n) (h1 : n ≤ 9223372036854775807) : (itoa n).length ≤ 21 := by
  unfold itoa
  split
  · have := dec_len20 (m := n.natAbs) (by unfold U64; omega)
    simp only [List.length_cons]; omega
  · have := dec_len20 (m := n.toNat) (by unfold U64; omega)
    omega

set_option maxRecDepth 100000 in
theorem rnumber_any (n : Int) (h0 : -9223372036854775808 ≤ n) (h1 : n ≤ 9223372036854775807) (w : World) :
    Calls Tryz.prog 26 #[.int .i64 n] w fun e w' => e = .returned (.string (S (itoa n))) ∧ Below w.heap.size w w' := by
  by_cases hs : n < 0
  · have hu : U64 n.natAbs := by unfold U64; omega
    have hl := dec_len20 hu
    have hadd : ∀ W, (Op.stringOp .add (⟨#[45]⟩ : ByteArray) (S (decDigits n.natAbs))).run Tryz.prog W = .ok (.string (S (45 :: decDigits n.natAbs))) W := fun W => S_add [45] _ (by simp only [List.length_singleton]; omega) W
    go_enter Tryz.func26, Tryz.ntmps26
    go_wp2_with fail
    refine (digits_int _ n.natAbs (by omega) hu w).mono ?_
    rintro e w1 ⟨rfl, hb⟩
    have HB := Lib.hid hb
    clear hb
    go_wp2_with fail
    go_ret
    exact ⟨ret_str (by unfold itoa; rw [if_pos hs]), HB.out⟩
  · have hu : U64 n.toNat := by unfold U64; omega
    go_enter Tryz.func26, Tryz.ntmps26
    go_wp2_with fail
    refine (digits_int _ n.toNat (by omega) hu w).mono ?_
    rintro e w1 ⟨rfl, hb⟩
    have HB := Lib.hid hb
    clear hb
    go_wp2_with fail
    go_ret
    exact ⟨ret_str (by unfold itoa; rw [if_neg (by omega)]), HB.out⟩

set_option maxRecDepth 100000 in
set_option maxHeartbeats 4000000 in
theorem opWord_any (op : Int) (h0 : -9223372036854775808 ≤ op) (h1 : op ≤ 9223372036854775807) (w : World) :
    Calls Tryz.prog 65 #[.int .i64 op] w fun e w' => e = .returned (.string (S (opL op))) ∧ Below w.heap.size w w' := by
  by_cases hr : 1 ≤ op ∧ op ≤ 15
  · rcases (by omega : op = 1 ∨ op = 2 ∨ op = 3 ∨ op = 4 ∨ op = 5 ∨ op = 6 ∨ op = 7 ∨ op = 8 ∨ op = 9 ∨ op = 10 ∨ op = 11 ∨ op = 12 ∨ op = 13 ∨ op = 14 ∨ op = 15) with rfl | rfl | rfl | rfl | rfl | rfl | rfl | rfl | rfl | rfl | rfl | rfl | rfl | rfl | rfl
    all_goals
      go_enter Tryz.func65, Tryz.ntmps65
      go_wp2_with fail
      go_ret
      exact ⟨rfl, (Below.refl _ _).alloc (Nat.le_refl _) _⟩
  · by_cases hd : op = 64
    · subst hd
      go_enter Tryz.func65, Tryz.ntmps65
      go_wp2_with fail
      go_ret
      exact ⟨rfl, (Below.refl _ _).alloc (Nat.le_refl _) _⟩
    · have hl := itoa_len h0 h1
      have hadd : ∀ W, (Op.stringOp .add (⟨#[111, 112]⟩ : ByteArray) (S (itoa op))).run Tryz.prog W = .ok (.string (S (111 :: 112 :: itoa op))) W := fun W => S_add [111, 112] _ (by simp only [List.length_cons, List.length_nil]; omega) W
      by_cases h2 : 1 ≤ op
      all_goals
        go_enter Tryz.func65, Tryz.ntmps65
        go_wp2_with fail
        refine (rnumber_any op h0 h1 _).mono ?_
        rintro e w1 ⟨rfl, hb⟩
        have HB : Hid (Below w.heap.size w w1) := ((Below.refl _ _).alloc (Nat.le_refl _) _).trans (hb.mono (by simp))
        clear hb
        go_wp2_with fail
        go_ret
        exact ⟨ret_str (by unfold opL; rw [if_neg hr, if_neg hd]), HB.out⟩

end Go.Proofs.YtepalbldleegiaaGreatDoor.sh
