/-
  The names of a directory, sorted: walked.
  Conditions: none.
-/
import Derived.Test.YtepmjghgnhklfaaGreatDoorSrt
import Derived.Test.YtepmjghgnhklfaaGreatDoorMem
import Derived.Test.YtepmjghgnhklfaaGreatDoorDe
import Derived.OwnWalk
import Derived.Sort.KeysCollected
import Derived.Sort.OwnSorted
import Derived.Maps.AppendAt
import Derived.Maps.RangeWalk
namespace Go.Proofs.YtepmjghgnhklfaaGreatDoor.oc
open Go.RowKit Go.Maps Go.WideMaps Go.Sort Go.Proofs.YtepmjghgnhklfaaGreatDoor.det
open Go.Proofs (encStr)
set_option maxRecDepth 100000
theorem ins_str (v : Value) (b : Int) (hb : b ≤ 1) (w : World) : Calls Tryz.prog 215 #[v, .int .i64 0, .int .i64 b] w fun e w' => e = .returned (.tuple #[]) ∧ w = w' := by
  have hb' : ¬ 1 < b := by omega
  go_enter Tryz.func215, Tryz.ntmps215
  go_wp2
  refine wp_loop_rounds 1 ?_
  rw [rounds_succ]
  go_wp2
  go_end0
  exact ⟨rfl, rfl⟩
def SomeI (w : World) (e : Ending) (w' : World) : Prop := ∃ n : Int, e = .returned (.int .i64 n) ∧ w = w'
theorem len_0 (w : World) : Calls Tryz.prog 171 #[.int .u64 0] w (SomeI w) := by
  go_enter Tryz.func171, Tryz.ntmps171
  go_wp2
  go_ret
  exact ⟨_, rfl, rfl⟩
theorem pdq_str (v : Value) (b l : Int) (h0 : 0 ≤ b) (hb : b ≤ 1) (w : World) : Calls Tryz.prog 170 #[v, .int .i64 0, .int .i64 b, .int .i64 l] w fun e w' => e = .returned (.tuple #[]) ∧ w = w' := by
  have hb' : b ≤ 12 := by omega
  go_enter Tryz.func170, Tryz.ntmps170
  go_wp2_with fail
  refine wp_loop_rounds 1 ?_
  rw [rounds_succ]
  go_wp2_with (go_at_call 215; refine (ins_str _ _ hb _).mono ?_; rintro e w1 ⟨rfl, rfl⟩)
  refine bodyPost_ret (results_none rfl _ _ _) rfl ?_
  exact ⟨rfl, rfl⟩
theorem sort_strs0 (w : World) : Calls Tryz.prog 125 #[.slice none 0 0] w fun e w' => e = .returned (.tuple #[]) ∧ w = w' := by
  go_enter Tryz.func125, Tryz.ntmps125
  go_wp2_with (first | (go_at_call 171; refine (len_0 _).mono ?_; rintro e w1 ⟨l, rfl, rfl⟩) | (go_at_call 170; refine (pdq_str _ _ _ (by omega) (by omega) _).mono ?_; rintro e w1 ⟨rfl, rfl⟩))
  go_end0
  exact ⟨rfl, rfl⟩
theorem lawS : Keyed Tryz.prog 9 := string_keyed Tryz.underlying9
theorem infoS : (Tryz.prog.info? 9).map (fun i => (i.zero, i.size, i.bytes)) = some (some (.string ⟨#[]⟩), 1, 16) := by kernel_rfl
set_option maxHeartbeats 4000000 in
/-- every map: its keys, sorted, in a new row -/
theorem rising_any : RisAt Tryz.prog 84 9 := by
  intro ms n D0 w hown hmax hbytes
  obtain ⟨i0, hi, hz0, hz1, hz2⟩ := info_parts infoS
  have hbl := hown.lt
  go_enter Tryz.func84, Tryz.ntmps84
  go_wp2_with (first | (at_range; refine wpList_range_own _ rfl _ 100 rfl 9 96 lawS Tryz.underlying100 fileR ms n D0 rfl hown ?_; intro w0 hrg0 hg0 hs0) | fail)
  go_frame
  have hb0 : Below w.heap.size w w0 := (Below.refl _ _).grown hg0 (Nat.le_refl _) (fun k hk => by cases hk)
  have hsz0 : w.heap.size + 1 ≤ w0.heap.size := by omega
  clear hs0
  go_loopw [3] (fun v wr => ∃ (left : Lit → Bool) (cnt : Nat) (ss : List (List UInt8)), wr.ranges Tryz.prog 9 fileR ms w.heap.size n D0 left cnt ∧ ss.length + cnt ≤ Maps.size D0 ∧
      wr.ownsRow (w.heap.size + 1) 9 1 v ss.length (ss.map encStr) ∧ (ss.length = 0 → v = .slice none 0 0) ∧ Collected D0 left ss ∧ Below w.heap.size w wr ∧ w.heap.size + 1 ≤ wr.heap.size)
    (fun _ wr => wr.rangeLeft ms w.heap.size)
  case atStart =>
    exact ⟨_, _, [], hrg0, by simp, World.ownsRow_nil _ _ _ _, fun _ => rfl, Collected.start D0, hb0, hsz0⟩
  case round =>
    obtain ⟨left, cnt, ss, hrg, hcs, hrow, hnil, hC, hnx, hsz⟩ := hrel
    go_wp2_with (first
      | (at_next; refine wpList_next_ranges _ rfl _ rfl 9 lawS fileR encStr ptrV (fun key kl hk => by obtain ⟨x, hx, _⟩ := Maps.keyOf_str Tryz.underlying9 hk; exact ⟨x, hx⟩) fileR_inv ms w.heap.size n _ _ _ rfl hrg ?_ ?_)
      | go_in)
    · intro hc0 hl0
      rcases hrow.2 with ⟨rfl, hn0⟩ | ⟨g, cap, cur, rfl, hbase, hb, h1, h2, h3, h4⟩
      · have hss : ss = [] := List.length_eq_zero_iff.1 hn0
        subst hss
        have hp := hC.perm hown lawS Tryz.underlying9 hl0
        clear hrow hC hnil hl0 hown hrg
        go_wp2_with (first | (go_at_call 125; refine (sort_strs0 _).mono ?_; rintro e w1 ⟨rfl, rfl⟩) | fail)
        go_ret
        exact ⟨.slice none 0 0, [], rfl, fun _ => rfl, hp, by simpa using World.ownsRow_nil wr w.heap.size 9 1, hnx⟩
      · have hH : Holds encStr wr g 0 ss.toArray := holds_of_block hb (by simpa using h4)
        have hgl : g < wr.heap.size := (Array.getElem?_eq_some_iff.1 hb).1
        have hc := Tryz.sort_strs g 0 cap ss wr hH hgl (by unfold maxLen at *; omega)
        have hp := hC.perm hown lawS Tryz.underlying9 hl0
        clear hrow hC hl0 hown hrg
        go_wp2_with (first | (go_at_call 125; refine hc.mono ?_; rintro e w' ⟨rfl, nn, os, rfl⟩) | fail)
        go_ret
        refine ⟨_, ss, rfl, fun h0 => hnil h0, hp, ?_, hnx.grown (grownBy_sorted _) hnx.size (fun j hj => by cases hj; omega)⟩
        have ho := ownsRow_sorted (base := w.heap.size) (ss := ss) (ts := ss.mergeSort fun x y => decide (x ≤ y)) (n := nn) (os := os) (by simp) (by omega) hb h1 h2 h3
        exact ho
    · intro x c kl yd yp w2 cnt2 hkey hlk hv hat hrg2 hlt hg2 hs2 hen
      obtain ⟨x', ex, rfl, _⟩ := Maps.keyOf_str Tryz.underlying9 hkey
      obtain rfl : x = x' := encStr_inj ex
      have hrow2 := hrow.kept hg2 (Or.inr (row_ne_iter hrow hrg).symm)
      have hsz2 : w.heap.size + 1 ≤ w2.heap.size := Nat.le_trans hsz hg2.size
      clear hs2
      go_wp2_with (first
        | (at_builtin; (refine wpList_append_own _ rfl _ _ 71 rfl (w.heap.size + 1) 9 i0 (.string ⟨#[]⟩) 1 16 Tryz.underlying71 hi hz0 hz1 hz2 rfl (by decide) _ _ _ rfl (hrow2.alloc _) ⟨w2.heap.size, 0, none⟩ 1 1 [encStr x] rfl rfl (cell_one_new _ _ _) (by simp [Value.oneCell', encStr]) (by unfold maxLen at *; omega) (by omega) (by simp; omega) ?_; intro v' w3 hown' hg3 hnil3; go_frame))
        | fail)
      have hg3' : (w2.alloc (.cells #[encStr x] 9)).grownBy w3 u3.ownBlock := hg3
      clear hg3 hnil3 hen
      have hrg3 := (hrg2.alloc _).kept hg3' (row_ne_low hrow2 (by omega)) (row_ne_iter hrow2 hrg2)
      go_roundw
      case rel =>
        refine ⟨_, cnt2, ss ++ [x], hrg3, by simp; omega, by simpa using hown', fun h0 => by simp at h0, hC.step hlk hat, ?_, ?_⟩
        · exact ((hnx.grown hg2 hnx.size (fun j hj => by cases hj; exact Nat.le_refl _)).alloc (by omega) _).grown hg3' (by simp; omega) (fun j hj => by have := (hrow2.lt j hj).1; omega)
        · exact Nat.le_trans hsz2 (Nat.le_trans (by simp) hg3'.size)
      case measure => rw [hrg3.left_eq, hrg.left_eq]; exact hlt
theorem risingAt : ∀ (args : List Value) (M : Mem) (v : Value) (M' : Mem), risingS 9 args M = some (v, M') → ∀ (ρ : Ren) (A : Nat → Prop) (args' : Array Value) (w : World), Rm Tryz.prog ρ A M w → AsR ρ A args args' → Goes Tryz.prog 84 args' w (RetV Tryz.prog ρ A M w v M') :=
  risingS_ok Tryz.underlying9 (by kernel_rfl) (fun a w => Tryz.call84 a w) rising_any
end Go.Proofs.YtepmjghgnhklfaaGreatDoor.oc
