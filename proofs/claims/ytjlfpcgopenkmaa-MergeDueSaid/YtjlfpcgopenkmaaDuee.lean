/-
  MergeDue walked: the program's answer and the document's are one, and so are those of duePlaced.
  Conditions: the row lies below the heap's end and within the form's reach.
-/
import Derived.Test.YtjlfpcgopenkmaaDued
namespace Go.Proofs.Ytjlfpcgopenkmaa.due
open Go.RowKit
theorem stats_mono {w : World} {B B' n : Nat} {A : Option Addr} {f : Nat → Nat → Int} (h : Stats w B A n f) (hB : B ≤ B') : Stats w B' A n f := fun hn => by
  obtain ⟨b, off, e, hb, hc⟩ := h hn
  exact ⟨b, off, e, by omega, hc⟩
theorem law_any (A : Option Addr) (n c : Nat) (f : Nat → Nat → Int) (s : Int) (w : World) (h : Stats w w.heap.size A n f) (hi : Ints n f) (hn : n * 40 ≤ 140737488351232) :
    Calls Try.prog 4 #[.slice A n c, .int .i64 s] w fun e w' => e = .returned (.bool true) ∧ Below w.heap.size w w' := by
  go_enter Try.func4, Try.ntmps4
  go_wp2_with fail
  refine (due_any A n c f s _ h hi (by omega)).mono ?_
  rintro e w1 ⟨rfl, hb1⟩
  go_wp2_with fail
  refine (rdue_any A n c f s w.heap.size _ (stats_below h hb1) hi (by omega)).mono ?_
  rintro e w2 ⟨rfl, rfl⟩
  go_wp2_with fail
  refine (placed_any A n c f s _ (stats_mono (stats_below h hb1) hb1.size) hi hn).mono ?_
  rintro e w3 ⟨rfl, hb3⟩
  go_wp2_with fail
  go_ret
  exact ⟨rfl, hb1.trans (hb3.mono hb1.size)⟩
end Go.Proofs.Ytjlfpcgopenkmaa.due
