/-
  The names of a disk of no file, of a disk of one: walked.
  Conditions: none.
-/
import Derived.Test.YtjmhpmhadaenjabGreatDoorFkc
import Derived.OwnWalk
namespace Go.Proofs.YtjmhpmhadaenjabGreatDoor.fk
open Go.RowKit Go.Maps Go.WideMaps
set_option maxRecDepth 100000

def ptrV (c : Option Nat) : Value := .pointer (c.map fun b => ⟨b, 0, none⟩)
theorem fileR_inv : ∀ v y, fileR v = some y → ∃ c, v = ptrV c := by
  intro v y h
  unfold fileR at h
  split at h
  · exact ⟨none, rfl⟩
  · exact ⟨some _, rfl⟩
  · cases h
theorem str_inv : ∀ key kl, keyOf Tryz.prog 9 key = some kl → ∃ x, key = Value.string x := by
  intro key kl h
  cases key <;> simp [keyOf, Tryz.underlying9, mapKey] at h
  exact ⟨_, rfl⟩
theorem rising_0 (ms n : Nat) (w : World) (h : w.ownsMap Tryz.prog 9 fileR ms n (.map [])) : Calls Tryz.prog 50 #[.map (some ms)] w fun e w' => e = .returned (.slice none 0 0) ∧ Below w.heap.size w w' := by
  have HM := Lib.hid h
  clear h
  go_enter Tryz.func50, Tryz.ntmps50
  go_wp2_with (first | (at_range; refine wpList_range_own _ rfl _ 76 rfl 9 72 lawS Tryz.underlying76 fileR ms n (.map []) rfl HM.out ?_; intro w0 hrg0 hg0 hs0) | fail)
  go_frame
  have hb0 : Below w.heap.size w w0 := (Below.refl _ _).grown hg0 (Nat.le_refl _) (fun k hk => by cases hk)
  refine wp_loop_rounds 1 ?_
  rw [rounds_succ]
  go_wp2_with (first | (at_next; refine wpList_next_ranges _ rfl _ rfl 9 lawS fileR Value.string ptrV str_inv fileR_inv ms w.heap.size n _ _ _ rfl hrg0 ?_ (fun x c kl y w' cnt' _ _ _ _ _ hlt => absurd hlt (Nat.not_lt_zero _)); intro _ _) | (go_at_call 84; refine (sort_strs0 _).mono ?_; rintro e w1 ⟨rfl, rfl⟩) | fail)
  go_ret
  exact ⟨rfl, hb0⟩
theorem own_one {w : World} {B n : Nat} {e : TypeId} {v : Value} {xs : List Value} (h : w.ownsRow B e 1 v (n + 1) xs) : ∃ A c, v = .slice A (n + 1) c := by
  rcases h.2 with ⟨_, h0⟩ | ⟨g, cap, cur, hv, _⟩
  · cases h0
  · exact ⟨_, _, hv⟩
def OneStr (w : World) (e : Ending) (w' : World) : Prop := ∃ A c, e = .returned (.slice A 1 c) ∧ Below w.heap.size w w'
theorem infoS : (Tryz.prog.info? 9).map (fun i => (i.zero, i.size, i.bytes)) = some (some (.string ⟨#[]⟩), 1, 16) := by kernel_rfl
theorem rising_1 (ms n b : Nat) (w : World) (h : w.ownsMap Tryz.prog 9 fileR ms n (.map [(.string [97], .lit (.int .u64 b))])) : Calls Tryz.prog 50 #[.map (some ms)] w (OneStr w) := by
  obtain ⟨i0, hi, hz0, hz1, hz2⟩ := info_parts infoS
  have HM := Lib.hid h
  clear h
  go_enter Tryz.func50, Tryz.ntmps50
  go_wp2_with (first | (at_range; refine wpList_range_own _ rfl _ 76 rfl 9 72 lawS Tryz.underlying76 fileR ms n _ rfl HM.out ?_; intro w0 hrg0 hg0 hs0) | fail)
  go_frame
  have hb0 : Below w.heap.size w w0 := (Below.refl _ _).grown hg0 (Nat.le_refl _) (fun k hk => by cases hk)
  refine wp_loop_rounds 2 ?_
  rw [rounds_succ]
  have HS : Hid (w.heap.size ≤ w0.heap.size) := Lib.hid (by omega)
  have HSL : Hid (w.heap.size < w0.heap.size) := Lib.hid (by omega)
  clear hs0 hg0
  go_wp2_with (first
    | (at_next; refine wpList_next_ranges _ rfl _ rfl 9 lawS fileR Value.string ptrV str_inv fileR_inv ms w.heap.size n _ _ _ rfl hrg0 (fun h => absurd h (Nat.succ_ne_zero _)) ?_; intro x c kl y w1 cnt1 hx1 hx2 hx3 hx4 hrg1 hlt hg1 hs1 hen; have hb1 : Below w.heap.size w w1 := hb0.grown hg1 HS.out (fun k hk => by cases hk; exact Nat.le_refl _); have HS1 : Hid (w.heap.size < w1.heap.size) := Lib.hid (by rw [hs1]; exact HSL.out); clear hs1 hx4)
    | (at_builtin; go_must (refine wpList_append_own _ rfl _ _ 47 rfl (w.heap.size + 1) 9 i0 (.string ⟨#[]⟩) 1 16 Tryz.underlying47 hi hz0 hz1 hz2 rfl (by decide) _ _ _ rfl (World.ownsRow_nil _ _ _ _) ⟨w1.heap.size, 0, none⟩ 1 1 [.string x] rfl rfl (cell_one_new _ _ _) (by simp [Value.oneCell']) (by unfold maxLen; omega) (by omega) (by simp; exact Nat.le_of_lt HS1.out) ?_; intro v' w2 hown2 hgr2 _; have hgr3 : (w1.alloc _).grownBy w2 none := hgr2; have hrg2 := (hrg1.alloc _).kept hgr3 (by simp) (by simp); have hown3 : w2.ownsRow (w.heap.size + 1) 9 1 v' (0 + 1) [.string x] := hown2; obtain ⟨A2, c2, rfl⟩ := own_one hown3; have hb2 : Below w.heap.size w w2 := (hb1.alloc hb1.size _).grown hgr3 (by simp; exact Nat.le_succ_of_le hb1.size) (fun k hk => by cases hk); clear hen hrg1 hgr2 hgr3 hown2 hown3 hb1 hrg0 hb0))
    | fail)
  rw [rounds_succ]
  go_wp2_with (first
    | (at_next; refine wpList_next_ranges _ rfl _ rfl 9 lawS fileR Value.string ptrV str_inv fileR_inv ms w.heap.size n _ _ _ rfl hrg2 ?_ (fun x c kl y w' cnt' _ _ _ _ _ hlt' => absurd (Nat.lt_of_lt_of_le hlt' (Nat.le_of_lt_succ hlt)) (Nat.not_lt_zero _)); intro _ _)
    | (go_at_call 84; refine (sort_strs1 _ _ _).mono ?_; rintro e w3 ⟨rfl, rfl⟩)
    | fail)
  go_ret
  exact ⟨A2, c2, rfl, hb2⟩
end Go.Proofs.YtjmhpmhadaenjabGreatDoor.fk
