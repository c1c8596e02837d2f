/-
  Check of a disk without files: walked.
  Conditions: the table of kinds is as it was laid.
-/
import Derived.Test.YtjmhpmhadaenjabGreatDoorFke
namespace Go.Proofs.YtjmhpmhadaenjabGreatDoor.fk
open Go.RowKit Go.Maps Go.WideMaps
set_option maxRecDepth 100000

theorem known_0 (k d : Nat) (w : World) (h : Blk w k 52 (LookC d)) : Calls Tryz.prog 36 #[.pointer (some ⟨k, 0, none⟩)] w fun e w' => e = .returned (.slice none 0 0) ∧ w = w' := by
  have c1 : w.cell? ⟨k, 1, none⟩ = some (.slice none 0 0) := (h.cell 1).trans rfl
  have c4 : w.cell? ⟨k, 4, none⟩ = some (.int .i64 31) := (h.cell 4).trans rfl
  clear h
  go_enter Tryz.func36, Tryz.ntmps36
  go_wp2_with fail
  refine wp_loop_rounds 1 ?_
  rw [rounds_succ]
  go_wp2_with (first | (go_at_call 47; refine (sort_ints0 _).mono ?_; rintro e w1 ⟨rfl, rfl⟩) | fail)
  go_ret
  exact ⟨rfl, rfl⟩
theorem topics_0 (k d : Nat) (v : Value) (w : World) (h : Blk w k 52 (LookC d)) : Calls Tryz.prog 16 #[.pointer (some ⟨k, 0, none⟩), v] w fun e w' => e = .returned (.slice none 0 0) ∧ w = w' := by
  have H := Lib.hid h
  clear h
  go_enter Tryz.func16, Tryz.ntmps16
  go_wp2_with (first | (go_at_call 36; refine (known_0 _ _ _ H.out).mono ?_; rintro e w1 ⟨rfl, rfl⟩) | fail)
  refine wp_loop_rounds 1 ?_
  rw [rounds_succ]
  go_wp2_with fail
  go_ret
  exact ⟨rfl, rfl⟩

def FindL : List Value := [.int .i64 0, .string ⟨#[99, 97, 116, 97, 108, 111, 103]⟩, .int .i64 0]
def Told (fb : Nat) (w : World) (e : Ending) (w' : World) : Prop := ∃ A c, e = .returned (.tuple #[]) ∧ w'.cell? ⟨fb, 0, none⟩ = some (.slice A 1 c) ∧ w'.ownsRow (fb + 1) 45 3 (.slice A 1 c) 1 FindL ∧ Below fb w w'
theorem infoF : (Tryz.prog.info? 45).map (fun i => (i.zero, i.size, i.bytes)) = some (some (.agg #[.int .i64 0, .string ⟨#[]⟩, .int .i64 0]), 3, 32) := by kernel_rfl
def Kinds (w : World) : Prop := ∃ s : ByteArray, w.cell? ⟨0, 0, none⟩ = some (.string s) ∧ s.toList.isEmpty = false
theorem own_one3 {w : World} {B n : Nat} {e : TypeId} {v : Value} {xs : List Value} (h : w.ownsRow B e 3 v (n + 1) xs) : ∃ A c, v = .slice A (n + 1) c := by
  rcases h.2 with ⟨_, h0⟩ | ⟨g, cap, cur, hv, _⟩
  · cases h0
  · exact ⟨_, _, hv⟩
theorem tell_0 (fb : Nat) (w : World) (hk : Kinds w) (hf : Blk w fb 22 #[.slice none 0 0]) : Calls Tryz.prog 14 #[.int .i64 0, .string ⟨#[99, 97, 116, 97, 108, 111, 103]⟩, .int .i64 0, .pointer (some ⟨fb, 0, none⟩)] w (Told fb w) := by
  obtain ⟨i0, hi, hz0, hz1, hz2⟩ := info_parts infoF
  obtain ⟨s, hs, hs0⟩ := hk
  have cf : w.cell? ⟨fb, 0, none⟩ = some (.slice none 0 0) := (hf.cell 0).trans rfl
  have HF := Lib.hid hf
  have hlt : fb < w.heap.size := hf.lt
  clear hf
  go_enter Tryz.func14, Tryz.ntmps14
  go_wp2_with (first
    | (at_builtin; go_must (refine wpList_append_own _ rfl _ _ 22 rfl (fb + 1) 45 i0 (.agg #[.int .i64 0, .string ⟨#[]⟩, .int .i64 0]) 3 32 Tryz.underlying22 hi hz0 hz1 hz2 rfl (by decide) _ _ _ rfl (World.ownsRow_nil _ _ _ _) ⟨w.heap.size, 0, none⟩ 1 1 FindL rfl rfl (fun j u hu => by rw [add_flat, Nat.zero_add]; exact ((Blk.new w _ _).cell j).trans (by simpa [FindL] using hu)) (by simp [FindL, Value.oneCell']) (by unfold maxLen; omega) (by omega) (by simp; omega) ?_; intro v' w2 hown2 hgr2 _; have hgr3 : (w.alloc _).grownBy w2 none := hgr2; have hown3 : w2.ownsRow (fb + 1) 45 3 v' (0 + 1) FindL := hown2; obtain ⟨A2, c2, rfl⟩ := own_one3 hown3; have HF2 : Hid (Blk w2 fb 22 #[.slice none 0 0]) := (HF.out.alloc _).grown hgr3 (by simp); have cf2 : w2.cell? ⟨fb, 0, none⟩ = some (.slice none 0 0) := (HF2.out.cell 0).trans rfl; have ff2 := HF2.out.frozen 0; have HB2 : Hid (Below fb w w2) := Lib.hid ((((Below.refl _ _).alloc (Nat.le_refl _) _).grown hgr3 (by simp) (fun k hk => by cases hk)).mono (Nat.le_of_lt hlt)); have HO := Lib.hid hown3; clear hgr2 hgr3 hown2 hown3 cf))
    | fail)
  go_end0
  exact ⟨A2, c2, rfl, ((HF2.out.set_ 0 _).cell 0).trans rfl, ownsRow_setCell_below HO.out (by exact Nat.lt_succ_self _) _, HB2.out.setCell (by exact Nat.le_refl _) _⟩
theorem own_less {w : World} {B B' : Nat} {e : TypeId} {z n : Nat} {v : Value} {xs : List Value} (h : w.ownsRow B e z v n xs) (hB : B' ≤ B) : w.ownsRow B' e z v n xs := by
  refine ⟨h.1, ?_⟩
  rcases h.2 with h | ⟨g, cap, cur, h1, h2, h3⟩
  · exact Or.inl h
  · exact Or.inr ⟨g, cap, cur, h1, Nat.le_trans hB h2, h3⟩
def Found1 (w : World) (e : Ending) (w' : World) : Prop := ∃ A c, e = .returned (.tuple #[.slice A 1 c, .int .i64 0]) ∧ w'.ownsRow w.heap.size 45 3 (.slice A 1 c) 1 FindL ∧ Below w.heap.size w w'
theorem Kinds.below {w w' : World} (h : Kinds w) (hb : Below w.heap.size w w') (h0 : 0 < w.heap.size) : Kinds w' := by
  obtain ⟨s, hs, h1⟩ := h
  exact ⟨s, (hb.cell (p := ⟨0, 0, none⟩) h0).trans hs, h1⟩
theorem Kinds.lt {w : World} (h : Kinds w) : 0 < w.heap.size := by
  obtain ⟨s, hs, _⟩ := h
  exact block_lt_of_cell hs
set_option maxHeartbeats 1000000 in
theorem check_0 (d : Nat) (ops f : Int) (w : World) (hk : Kinds w) (h : Dk w d (.map []) ops f false) : Calls Tryz.prog 4 #[.pointer (some ⟨d, 0, none⟩)] w (Found1 w) := by
  have HD := Lib.hid h
  have HK := Lib.hid hk
  clear h hk
  go_enter Tryz.func4, Tryz.ntmps4
  go_wp2_with (first
    | (go_at_call 13; refine (look_0 _ _ _ _ HD.out).mono ?_; rintro e w1 ⟨k, rfl, hB1, hk1, hb1⟩; have HC1 := Lib.hid hB1; have HK1 := Lib.hid hk1; have HB1 := Lib.hid hb1; have c1 : (w1.alloc (.cells #[.slice none 0 0] 22)).cell? ⟨k, 4, none⟩ = some (.int .i64 31) := ((HC1.out.alloc _).cell 4).trans rfl; clear hB1 hk1 hb1)
    | (go_at_call 15; refine (name_cat _).mono ?_; rintro e w2 ⟨rfl, hb2⟩; have HB2 := Lib.hid hb2; have HC2 : Hid (Blk w2 k _ _) := (HC1.out.alloc _).below hb2 (HC1.out.alloc _).lt; have HF2 : Hid (Blk w2 w1.heap.size 22 _) := (Blk.new w1 _ _).below hb2 (by simp); clear hb2 c1)
    | fail)
  have HW2 : Hid (Below w.heap.size w w2) := (HB1.out.alloc HB1.out.size _).trans (HB2.out.mono (by simp; exact Nat.le_succ_of_le HB1.out.size))
  refine (tell_0 _ _ (HK.out.below HW2.out HK.out.lt) HF2.out).mono ?_
  rintro e w3 ⟨A, c, rfl, hcell, hown, hb3⟩
  have HW3 : Hid (Below w.heap.size w w3) := HW2.out.trans (hb3.mono HB1.out.size)
  have HC3 : Hid (Blk w3 k 52 (LookC d)) := HC2.out.below hb3 HC1.out.lt
  have HO : Hid (w3.ownsRow w.heap.size 45 3 (.slice A 1 c) 1 FindL) := own_less hown (Nat.le_succ_of_le HB1.out.size)
  have c1 : w3.cell? ⟨k, 1, none⟩ = some (.slice none 0 0) := (HC3.out.cell 1).trans rfl
  have c4 : w3.cell? ⟨k, 4, none⟩ = some (.int .i64 31) := (HC3.out.cell 4).trans rfl
  clear hown hb3
  go_wp2_with (first
    | (go_at_call 16; refine (topics_0 _ _ _ _ HC3.out).mono ?_; rintro e w4 ⟨rfl, rfl⟩)
    | fail)
  refine wp_loop_rounds 1 ?_
  rw [rounds_succ]
  go_wp2_with fail
  refine wp_loop_rounds 1 ?_
  rw [rounds_succ]
  go_wp2_with fail
  go_ret2
  exact ⟨A, c, rfl, HO.out, HW3.out⟩
end Go.Proofs.YtjmhpmhadaenjabGreatDoor.fk
