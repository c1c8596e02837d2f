/-
  Create of a file on an empty disk; Salvage; Rebuild where it refuses: walked.
  Conditions: the table of kinds is as it was laid.
-/
import Derived.Test.YtjmhpmhadaenjabGreatDoorFkf
import Derived.Test.YtjmhpmhadaenjabGreatDoorFkg
namespace Go.Proofs.YtjmhpmhadaenjabGreatDoor.fk
open Go.RowKit Go.Maps Go.WideMaps
set_option maxRecDepth 100000

theorem at_a (d : Nat) (ops f : Int) (w : World) (h : Dk w d (.map []) ops f false) : Calls Tryz.prog 26 #[.pointer (some ⟨d, 0, none⟩), .string ⟨#[97]⟩] w fun e w' => e = .returned (.tuple #[.pointer none, .int .i64 31]) ∧ Below w.heap.size w w' := by
  obtain ⟨ms, mf, ch, q, u, n, hB, hm, hn⟩ := h
  have c6 : w.cell? ⟨d, 6, none⟩ = some (.bool false) := (hB.cell 6).trans rfl
  have H := Lib.hid hB
  have HM := Lib.hid hm
  clear hB hm
  go_enter Tryz.func26, Tryz.ntmps26
  go_wp2_with (first | (go_at_call 59; refine (good_a _).mono ?_; rintro e w1 ⟨rfl, hb1⟩; have c0 : w1.cell? ⟨d, 0, none⟩ = some (.map (some ms)) := ((H.out.below hb1 H.out.lt).cell 0).trans rfl; have hlk := look_none (map_below HM.out hb1 HM.out.lt) ⟨#[97]⟩ (by decide)) | go_in)
  go_ret2
  exact ⟨rfl, hb1⟩
def Made (B d : Nat) (w : World) (e : Ending) (w' : World) : Prop := ∃ b, e = .returned (.int .i64 0) ∧ DkB w' B d (.map [(.string [97], .lit (.int .u64 (b : Nat)))]) 1 (-1) false ∧ Below B w w'
theorem create_a (B d : Nat) (q : Int) (w : World) (h : Emp w B d q) : Calls Tryz.prog 9 #[.pointer (some ⟨d, 0, none⟩), .string ⟨#[97]⟩] w (Made B d w) := by
  have hdk := h.dk
  obtain ⟨ms, mf, hB, hm, hmf, hd, hms⟩ := h
  have HDK := Lib.hid hdk
  have H := Lib.hid hB
  have HM := Lib.hid hm
  clear hB hm hmf hdk
  go_enter Tryz.func9, Tryz.ntmps9
  go_wp2_with (first
    | (go_at_call 26; refine (at_a _ _ _ _ HDK.out).mono ?_; rintro e w1 ⟨rfl, hb1⟩; have HB1 := Lib.hid hb1; have H1 : Hid (Blk w1 d _ _) := H.out.below hb1 H.out.lt; have HM1 := Lib.hid (map_below HM.out hb1 HM.out.lt); have c0 : w1.cell? ⟨d, 0, none⟩ = some (.map (some ms)) := (H1.out.cell 0).trans rfl; have c5 : w1.cell? ⟨d, 5, none⟩ = some (.int .i64 (-1)) := (H1.out.cell 5).trans rfl; have c7 : w1.cell? ⟨d, 7, none⟩ = some (.int .i64 0) := (H1.out.cell 7).trans rfl; have f7 := H1.out.frozen 7; clear hb1)
    | (at_len; refine wpList_len_own _ rfl _ 76 rfl 9 72 Tryz.underlying76 fileR ms 0 _ rfl HM1.out ?_)
    | (go_at_call 27; go_in)
    | fail)
  have hA := add_made ms mf w1.heap.size d q ((w1.setCell ⟨d, 7, none⟩ (.int .i64 1)).alloc (.cells #[.slice none 0 0, .slice none 0 0, .slice none 0 0] 88)) ((H1.out.set_ 7 _).alloc _) ((HM1.out.setCell (map_ne HM1.out H1.out) _).alloc _)
  have HB2 : Hid (Below B w ((w1.setCell ⟨d, 7, none⟩ (.int .i64 1)).alloc (.cells #[.slice none 0 0, .slice none 0 0, .slice none 0 0] 88))) := Lib.hid (((HB1.out.mono (Nat.le_trans hd (Nat.le_of_lt H.out.lt))).setCell (by exact hd) _).alloc (by simp; exact Nat.le_trans hd (Nat.le_of_lt H1.out.lt)) _)
  refine hA.mono ?_
  clear hA c0 c5 c7 f7
  rintro e w2 ⟨rfl, ch, h1, h2, h3⟩
  have H2 := Lib.hid h1
  have HM2 := Lib.hid h2
  have HB3 := Lib.hid h3
  clear h1 h2 h3
  go_wp2_with fail
  go_ret
  exact ⟨w1.heap.size, rfl, ⟨ms, mf, ch, q, 0, 1, H2.out, HM2.out, by omega, hd, hms⟩, HB2.out.trans (HB3.out B hd hms)⟩
theorem saved_0 (k d : Nat) (w : World) (h : Blk w k 52 (LookC d)) : Calls Tryz.prog 20 #[.pointer (some ⟨k, 0, none⟩)] w fun e w' => e = .returned (.slice none 0 0) ∧ w = w' := by
  have c1 : w.cell? ⟨k, 1, none⟩ = some (.slice none 0 0) := (h.cell 1).trans rfl
  clear h
  go_enter Tryz.func20, Tryz.ntmps20
  go_wp2_with fail
  refine wp_loop_rounds 1 ?_
  rw [rounds_succ]
  go_wp2_with (first | (go_at_call 47; refine (sort_ints0 _).mono ?_; rintro e w1 ⟨rfl, rfl⟩) | fail)
  refine wp_loop_rounds 1 ?_
  rw [rounds_succ]
  go_wp2_with fail
  go_ret
  exact ⟨rfl, rfl⟩
theorem salvage_0 (d : Nat) (ops f : Int) (w : World) (h : Dk w d (.map []) ops f false) : Calls Tryz.prog 5 #[.pointer (some ⟨d, 0, none⟩)] w fun e w' => e = .returned (.tuple #[.slice none 0 0, .int .i64 0]) ∧ Below w.heap.size w w' := by
  have HD := Lib.hid h
  clear h
  go_enter Tryz.func5, Tryz.ntmps5
  go_wp2_with (first
    | (go_at_call 13; refine (look_0 _ _ _ _ HD.out).mono ?_; rintro e w1 ⟨k, rfl, hB1, hk1, hb1⟩; have HC1 := Lib.hid hB1; have HB1 := Lib.hid hb1; clear hB1 hk1 hb1)
    | (go_at_call 20; refine (saved_0 _ _ _ HC1.out).mono ?_; rintro e w4 ⟨rfl, rfl⟩)
    | fail)
  go_ret2
  exact ⟨rfl, HB1.out⟩
theorem salvage_nil (w : World) : Calls Tryz.prog 5 #[.pointer none] w fun e w' => e = .returned (.tuple #[.slice none 0 0, .int .i64 1]) ∧ w = w' := by
  go_enter Tryz.func5, Tryz.ntmps5
  go_wp2_with (first | (go_at_call 13; refine (look_nil _).mono ?_; rintro e w1 ⟨rfl, rfl⟩) | fail)
  go_ret2
  exact ⟨rfl, rfl⟩
theorem check_nil (w : World) : Calls Tryz.prog 4 #[.pointer none] w fun e w' => e = .returned (.tuple #[.slice none 0 0, .int .i64 1]) ∧ w = w' := by
  go_enter Tryz.func4, Tryz.ntmps4
  go_wp2_with (first | (go_at_call 13; refine (look_nil _).mono ?_; rintro e w1 ⟨rfl, rfl⟩) | fail)
  go_ret2
  exact ⟨rfl, rfl⟩
theorem salvage_dead (d : Nat) (D : DataW Unit) (ops f : Int) (w : World) (h : Dk w d D ops f true) : Calls Tryz.prog 5 #[.pointer (some ⟨d, 0, none⟩)] w fun e w' => e = .returned (.tuple #[.slice none 0 0, .int .i64 34]) ∧ w = w' := by
  have HD := Lib.hid h
  clear h
  go_enter Tryz.func5, Tryz.ntmps5
  go_wp2_with (first | (go_at_call 13; refine (look_dead _ _ _ _ _ HD.out).mono ?_; rintro e w1 ⟨rfl, rfl⟩) | fail)
  go_ret2
  exact ⟨rfl, rfl⟩
theorem check_dead (d : Nat) (D : DataW Unit) (ops f : Int) (w : World) (h : Dk w d D ops f true) : Calls Tryz.prog 4 #[.pointer (some ⟨d, 0, none⟩)] w fun e w' => e = .returned (.tuple #[.slice none 0 0, .int .i64 34]) ∧ w = w' := by
  have HD := Lib.hid h
  clear h
  go_enter Tryz.func4, Tryz.ntmps4
  go_wp2_with (first | (go_at_call 13; refine (look_dead _ _ _ _ _ HD.out).mono ?_; rintro e w1 ⟨rfl, rfl⟩) | fail)
  go_ret2
  exact ⟨rfl, rfl⟩

def CfgV (l h : Int) : Value := .agg #[.int .i64 l, .int .i64 h, .int .i64 0, .int .i64 0, .int .i64 0, .int .i64 0]
theorem rebuild_n1 (p : Value) (w : World) : Calls Tryz.prog 7 #[.pointer none, p, .agg #[.int .i64 256, .int .i64 10, .int .i64 0, .int .i64 0, .int .i64 0, .int .i64 0]] w fun e w' => e = .returned (.tuple #[.slice none 0 0, .int .i64 1]) ∧ Below w.heap.size w w' := by
  go_enter Tryz.func7, Tryz.ntmps7
  go_wp2_with fail
  go_ret2
  exact ⟨rfl, (Below.refl _ _).alloc (Nat.le_refl _) _⟩
theorem rebuild_n2 (d : Nat) (w : World) : Calls Tryz.prog 7 #[.pointer (some ⟨d, 0, none⟩), .pointer none, .agg #[.int .i64 256, .int .i64 10, .int .i64 0, .int .i64 0, .int .i64 0, .int .i64 0]] w fun e w' => e = .returned (.tuple #[.slice none 0 0, .int .i64 1]) ∧ Below w.heap.size w w' := by
  go_enter Tryz.func7, Tryz.ntmps7
  go_wp2_with fail
  go_ret2
  exact ⟨rfl, (Below.refl _ _).alloc (Nat.le_refl _) _⟩
theorem rebuild_cfg (d x : Nat) (w : World) : Calls Tryz.prog 7 #[.pointer (some ⟨d, 0, none⟩), .pointer (some ⟨x, 0, none⟩), .agg #[.int .i64 1, .int .i64 0, .int .i64 0, .int .i64 0, .int .i64 0, .int .i64 0]] w fun e w' => e = .returned (.tuple #[.slice none 0 0, .int .i64 104]) ∧ Below w.heap.size w w' := by
  go_enter Tryz.func7, Tryz.ntmps7
  go_wp2_with fail
  go_ret2
  exact ⟨rfl, (Below.refl _ _).alloc (Nat.le_refl _) _⟩
theorem rebuild_ex (d x b : Nat) (ops f ops' f' : Int) (w : World) (hk : Kinds w) (h : Dk w d (.map []) ops f false) (hx : Dk w x (.map [(.string [97], .lit (.int .u64 b))]) ops' f' false) : Calls Tryz.prog 7 #[.pointer (some ⟨d, 0, none⟩), .pointer (some ⟨x, 0, none⟩), .agg #[.int .i64 256, .int .i64 10, .int .i64 0, .int .i64 0, .int .i64 0, .int .i64 0]] w fun e w' => e = .returned (.tuple #[.slice none 0 0, .int .i64 32]) ∧ Below w.heap.size w w' := by
  have HD := Lib.hid h
  have HX := Lib.hid hx
  have HK := Lib.hid hk
  clear h hx hk
  go_enter Tryz.func7, Tryz.ntmps7
  go_wp2_with (first
    | (go_at_call 4; refine (check_0 _ _ _ _ (HK.out.below ((Below.refl _ _).alloc (Nat.le_refl _) _) HK.out.lt) (HD.out.below ((Below.refl _ _).alloc (Nat.le_refl _) _))).mono ?_; rintro e w1 ⟨A, c, rfl, ho1, hb1⟩; have HB1 : Hid (Below w.heap.size w w1) := Lib.hid (((Below.refl _ _).alloc (Nat.le_refl _) _).trans (hb1.mono (by simp))); clear ho1 hb1)
    | (go_at_call 23; refine (list_1 _ _ _ _ _ (HX.out.below HB1.out)).mono ?_; rintro e w2 ⟨A2, c2, rfl, hb2⟩; have HB2 := Lib.hid hb2; clear hb2)
    | fail)
  go_ret2
  exact ⟨rfl, HB1.out.trans (HB2.out.mono HB1.out.size)⟩
end Go.Proofs.YtjmhpmhadaenjabGreatDoor.fk
