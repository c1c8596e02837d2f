/-
  An operation's word walked.
  Conditions: the table of powers of ten is as it was laid; a number is an int64.
-/
import Derived.Test.YtepalbldleegiaaGreatDoorSwh
import Derived.WalkSmall
namespace Go.Proofs.YtepalbldleegiaaGreatDoor.sh
open Go.RowKit
open Go.Lib (itoa decDigits byteCells)

theorem tab_below {w w' : World} (h : Tab w) (hb : Below w.heap.size w w') : Tab w' := by
  have hv : w.var? Tryz.prog "internal/strconv.uint64pow10" = some ((Lib.pow10Tab.map fun z => Value.int .u64 z).toArray) := h
  have hlt : 3 < w.heap.size := by
    unfold World.var? at hv
    rw [show Tryz.prog.globalNamed "internal/strconv.uint64pow10" = some 3 by kernel_rfl] at hv
    rcases Nat.lt_or_ge 3 w.heap.size with h1 | h1
    · exact h1
    · simp [Array.getElem?_eq_none h1] at hv
  exact var?_below hb (by kernel_rfl) hlt hv

set_option maxRecDepth 100000 in
set_option maxHeartbeats 4000000 in
theorem operation_any (op : Int) (h0 : -9223372036854775808 ≤ op) (h1 : op ≤ 9223372036854775807) (w : World) (ht : Tab w) :
    Calls Tryz.prog 34 #[.int .i64 op] w fun e w' => e = .returned (.string (S (opL op))) ∧ Below w.heap.size w w' := by
  have HT := Lib.hid ht
  clear ht
  have hl := itoa_len h0 h1
  have hadd : ∀ W, (Op.stringOp .add (⟨#[111, 112]⟩ : ByteArray) (S (itoa op))).run Tryz.prog W = .ok (.string (S (111 :: 112 :: itoa op))) W := fun W => S_add [111, 112] _ (by simp only [List.length_cons, List.length_nil]; omega) W
  by_cases hd : op = 64
  · subst hd
    go_enter Tryz.func34, Tryz.ntmps34
    go_wp2_with fail
    go_ret
    exact ⟨rfl, Below.refl _ _⟩
  · have hdb : (op == 64) = false := by rw [beq_eq_false_iff_ne]; exact hd
    by_cases h2 : 1 ≤ op
    · go_enter Tryz.func34, Tryz.ntmps34
      go_wp2_with fail
      refine (operations_any w).mono ?_
      rintro e w1 ⟨g1, rfl, _, _, hb1⟩
      have HB1 := Lib.hid hb1
      clear hb1
      by_cases h3 : op < 16
      · go_wp2_with fail
        refine (operations_any w1).mono ?_
        rintro e w2 ⟨g2, rfl, _, hc2, hb2⟩
        have HB2 : Hid (Below w.heap.size w w2) := HB1.out.trans (hb2.mono HB1.out.size)
        have q0 := hc2 op.toNat (by omega)
        have hwd : wordAt op.toNat = opL op := by
          unfold wordAt opL
          rw [if_neg (by omega), if_pos (by omega)]
        rw [hwd] at q0
        clear hc2 hb2 hwd
        go_wp2_with fail
        go_ret
        exact ⟨rfl, HB2.out⟩
      · go_wp2_with fail
        refine (number_any op h0 h1 w1 (tab_below HT.out HB1.out)).mono ?_
        rintro e w2 ⟨rfl, hb2⟩
        have HB2 : Hid (Below w.heap.size w w2) := HB1.out.trans (hb2.mono HB1.out.size)
        clear hb2
        go_wp2_with fail
        go_ret
        exact ⟨ret_str (by unfold opL; rw [if_neg (by omega), if_neg hd]), HB2.out⟩
    · go_enter Tryz.func34, Tryz.ntmps34
      go_wp2_with fail
      refine (number_any op h0 h1 w HT.out).mono ?_
      rintro e w2 ⟨rfl, hb2⟩
      have HB2 := Lib.hid hb2
      clear hb2
      go_wp2_with fail
      go_ret
      exact ⟨ret_str (by unfold opL; rw [if_neg (by omega), if_neg hd]), HB2.out⟩
end Go.Proofs.YtepalbldleegiaaGreatDoor.sh
