/-
  An empty disk has no catalogue, and says so; the law FsckNone: walked.
  Conditions: the table of kinds is as it was laid.
-/
import Derived.Test.YtjmhpmhadaenjabGreatDoorFkh
import Derived.RegionTactic
namespace Go.Proofs.YtjmhpmhadaenjabGreatDoor.fk
open Go.RowKit Go.Maps Go.WideMaps
set_option maxRecDepth 100000

set_option maxHeartbeats 1000000 in
theorem same_one (g g' c c' : Nat) (w : World) (h : ∀ j v, FindL[j]? = some v → w.cell? ⟨g, j, none⟩ = some v) (h' : ∀ j v, FindL[j]? = some v → w.cell? ⟨g', j, none⟩ = some v) : Calls Tryz.prog 31 #[.slice (some ⟨g, 0, none⟩) 1 c, .slice (some ⟨g', 0, none⟩) 1 c'] w fun e w' => e = .returned (.bool true) ∧ Below w.heap.size w w' := by
  have s0 := h 0 _ rfl
  have s1 := h 1 _ rfl
  have s2 := h 2 _ rfl
  have t0 := h' 0 _ rfl
  have t1 := h' 1 _ rfl
  have t2 := h' 2 _ rfl
  clear h h'
  go_enter Tryz.func31, Tryz.ntmps31
  go_wp2_with fail
  refine wp_loop_rounds 2 ?_
  rw [rounds_succ]
  go_wp2_with fail
  go_region
  all_goals (go_wp2_with fail)
  all_goals rw [rounds_succ]
  all_goals (go_wp2_with fail)
  all_goals go_ret
  all_goals exact ⟨rfl, (Below.refl _ _).drew⟩
theorem own_cells3 {w : World} {B c : Nat} {A : Option Addr} {e : TypeId} {xs : List Value} (h : w.ownsRow B e 3 (.slice A 1 c) 1 xs) : ∃ g, A = some ⟨g, 0, none⟩ ∧ B ≤ g ∧ g < w.heap.size ∧ ∀ j v, xs[j]? = some v → w.cell? ⟨g, j, none⟩ = some v := by
  have hlt := h.lt
  rcases h.2 with ⟨_, h0⟩ | ⟨g, cap, cur, hv, hg, _⟩
  · cases h0
  · injection hv with h1
    subst h1
    refine ⟨g, rfl, hg, (hlt g rfl).2, fun j v hj => ?_⟩
    have := h.cells (g := g) rfl j v hj
    rwa [add_flat, Nat.zero_add] at this
set_option maxHeartbeats 1000000 in
theorem head_any (w : World) (hk : Kinds w) : Calls Tryz.prog 12 #[] w fun e w' => e = .returned (.bool true) ∧ Below w.heap.size w w' := by
  have HK := Lib.hid hk
  clear hk
  go_enter Tryz.func12, Tryz.ntmps12
  go_wp2_with (first
    | (go_at_call 6; refine (new_any _ (by omega) (by omega) _).mono ?_; rintro e w1 ⟨rfl, hE1, hb1⟩; have HE1 := Lib.hid hE1; have HB1 := Lib.hid hb1; clear hE1 hb1)
    | (go_at_call 4; refine (check_0 _ _ _ _ (HK.out.below HB1.out HK.out.lt) HE1.out.dk).mono ?_; rintro e w2 ⟨A, c, rfl, ho2, hb2⟩; have HO2 := Lib.hid ho2; have HB2 : Hid (Below w.heap.size w w2) := HB1.out.trans (hb2.mono HB1.out.size); obtain ⟨g, rfl, hg1, hg2, hg3⟩ := own_cells3 ho2; have HG3 := Lib.hid hg3; have HG2 := Lib.hid hg2; clear ho2 hb2 hg1 hg2 hg3)
    | (go_at_call 31; refine (same_one _ _ _ _ _ (fun j v hj => (World.cell?_alloc_lt _ _ _ (by exact HG2.out)).trans (HG3.out j v hj)) (fun j v hj => ((Blk.new w2 _ _).cell j).trans (by simpa [FindL] using hj))).mono ?_; rintro e w3 ⟨rfl, hb3⟩)
    | fail)
  go_ret
  exact ⟨rfl, (HB2.out.alloc HB2.out.size _).trans (hb3.mono (by simp; exact Nat.le_succ_of_le HB2.out.size))⟩
end Go.Proofs.YtjmhpmhadaenjabGreatDoor.fk
