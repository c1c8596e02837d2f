/-
  The law FsckNone: walked.
  Conditions: the table of kinds is as it was laid.
-/
import Derived.Test.YtjmhpmhadaenjabGreatDoorFki
namespace Go.Proofs.YtjmhpmhadaenjabGreatDoor.fk
open Go.RowKit Go.Maps Go.WideMaps
set_option maxRecDepth 100000

theorem cfg_0 (w : World) : Calls Tryz.prog 8 #[.int .i64 0] w fun e w' => e = .returned (.agg #[.int .i64 256, .int .i64 10, .int .i64 0, .int .i64 0, .int .i64 0, .int .i64 0]) ∧ Below w.heap.size w w' := by
  go_enter Tryz.func8, Tryz.ntmps8
  go_wp2
  refine bodyPost_ret (v := .agg #[.int .i64 256, .int .i64 10, .int .i64 0, .int .i64 0, .int .i64 0, .int .i64 0]) (by simp [results, Tryz.results8, go_sem]) rfl ⟨rfl, ?_⟩
  exact (Below.refl _ _).alloc (Nat.le_refl _) _
set_option maxHeartbeats 2000000 in
theorem none_any (w : World) (hk : Kinds w) : Calls Tryz.prog 3 #[] w fun e w' => e = .returned (.bool true) ∧ Below w.heap.size w w' := by
  have HK := Lib.hid hk
  clear hk
  go_enter Tryz.func3, Tryz.ntmps3
  go_wp2_with fail
  refine (check_nil _).mono ?_
  rintro e w0 ⟨rfl, rfl⟩
  go_wp2_with fail
  refine (salvage_nil _).mono ?_
  rintro e w0 ⟨rfl, rfl⟩
  go_wp2_with fail
  refine (new_any _ (by omega) (by omega) _).mono ?_
  rintro e w1 ⟨rfl, h1, b1⟩
  have HB1 := Lib.hid b1
  have HE1 := Lib.hid h1
  clear b1 h1
  go_wp2_with fail
  refine (new_any _ (by omega) (by omega) _).mono ?_
  rintro e w2 ⟨rfl, h2, b2⟩
  have HL : Hid (w.heap.size ≤ w1.heap.size) := HB1.out.size
  have HD2 : Hid (Dk w2 w.heap.size (.map []) 0 (-1) false) := (HE1.out.below b2).dk
  have HB2 : Hid (Below w.heap.size w w2) := HB1.out.trans (b2.mono HL.out)
  have HX2 := Lib.hid h2
  have HD1 : Hid (∀ W, Below w1.heap.size w2 W → Dk W w.heap.size (.map []) 0 (-1) false) := Lib.hid fun W hW => (HE1.out.below (b2.trans hW)).dk
  clear b2 h2
  go_wp2_with fail
  refine (cfg_0 _).mono ?_
  rintro e w3 ⟨rfl, b3⟩
  go_wp2_with fail
  refine (rebuild_n1 _ _).mono ?_
  rintro e w4 ⟨rfl, b4⟩
  go_wp2_with fail
  refine (cfg_0 _).mono ?_
  rintro e w5 ⟨rfl, b5⟩
  go_wp2_with fail
  refine (rebuild_n2 _ _).mono ?_
  rintro e w6 ⟨rfl, b6⟩
  go_wp2_with fail
  refine (rebuild_cfg _ _ _).mono ?_
  rintro e w7 ⟨rfl, b7⟩
  have c4 := b3.trans (b4.mono b3.size)
  have c5 := c4.trans (b5.mono c4.size)
  have c6 := c5.trans (b6.mono c5.size)
  have c7 := c6.trans (b7.mono c6.size)
  have HB7 := Lib.hid c7
  have HX7 := Lib.hid (HX2.out.below c7)
  have HL2 : Hid (w1.heap.size ≤ w2.heap.size) := Nat.le_of_lt HX2.out.lt
  clear b3 b4 b5 b6 b7 c4 c5 c6 c7 HD2
  go_wp2_with fail
  refine (create_a _ _ _ _ HX7.out).mono ?_
  rintro e w8 ⟨b, rfl, h8, b8⟩
  have HX8 := Lib.hid h8
  have HB8 : Hid (Below w1.heap.size w2 w8) := (HB7.out.mono HL2.out).trans b8
  clear h8 b8
  go_wp2_with fail
  refine (cfg_0 _).mono ?_
  rintro e w9 ⟨rfl, b9⟩
  have hs8 : w1.heap.size ≤ w8.heap.size := Nat.le_trans HL2.out HB8.out.size
  have HB9 : Hid (Below w1.heap.size w2 w9) := HB8.out.trans (b9.mono hs8)
  have HX9 := Lib.hid (HX8.out.below b9)
  clear b9 hs8
  go_wp2_with fail
  have HW9 : Hid (Below w.heap.size w w9) := HB2.out.trans (HB9.out.mono HL.out)
  refine (rebuild_ex _ _ _ _ _ _ _ _ (HK.out.below HW9.out HK.out.lt) (HD1.out _ HB9.out) HX9.out.dk).mono ?_
  rintro e w10 ⟨rfl, b10⟩
  have hs9 : w1.heap.size ≤ w9.heap.size := Nat.le_trans HL2.out HB9.out.size
  have HB10 : Hid (Below w1.heap.size w2 w10) := HB9.out.trans (b10.mono hs9)
  have HX10 := Lib.hid (HX9.out.below b10)
  clear b10 hs9
  go_wp2_with fail
  refine (salvage_0 _ _ _ _ (HD1.out _ HB10.out)).mono ?_
  rintro e w11 ⟨rfl, b11⟩
  have hs10 : w1.heap.size ≤ w10.heap.size := Nat.le_trans HL2.out HB10.out.size
  have HB11 : Hid (Below w1.heap.size w2 w11) := HB10.out.trans (b11.mono hs10)
  have HX11 := Lib.hid (HX10.out.below b11)
  clear b11 hs10
  go_wp2_with fail
  refine (fuse_0 _ _ _ _ HX11.out).mono ?_
  rintro e w12 ⟨rfl, h12, b12⟩
  have HX12 := Lib.hid h12
  have HB12 : Hid (Below w1.heap.size w2 w12) := HB11.out.trans b12
  clear b12 h12
  go_wp2_with fail
  refine (dir_dead _ _ _ _ HX12.out).mono ?_
  rintro e w13 ⟨rfl, h13, b13⟩
  have HX13 := Lib.hid h13
  have HB13 : Hid (Below w1.heap.size w2 w13) := HB12.out.trans b13
  clear b13 h13
  go_wp2_with fail
  refine (check_dead _ _ _ _ _ HX13.out.dk).mono ?_
  rintro e w14 ⟨rfl, rfl⟩
  go_wp2_with fail
  refine (salvage_dead _ _ _ _ _ HX13.out.dk).mono ?_
  rintro e w14 ⟨rfl, rfl⟩
  have HW13 : Hid (Below w.heap.size w w13) := HB2.out.trans (HB13.out.mono HL.out)
  go_wp2_with fail
  refine (head_any _ (HK.out.below HW13.out HK.out.lt)).mono ?_
  rintro e w14 ⟨rfl, b14⟩
  go_wp2_with fail
  go_ret
  exact ⟨rfl, HW13.out.trans (b14.mono HW13.out.size)⟩
end Go.Proofs.YtjmhpmhadaenjabGreatDoor.fk
