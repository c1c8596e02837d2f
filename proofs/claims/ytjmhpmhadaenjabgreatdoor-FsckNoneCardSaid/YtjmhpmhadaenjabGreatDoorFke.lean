/-
  A disk listed; the catalogue's file asked for on a disk that has none; what all looks begin with: walked.
  Conditions: none.
-/
import Derived.Test.YtjmhpmhadaenjabGreatDoorFkd
namespace Go.Proofs.YtjmhpmhadaenjabGreatDoor.fk
open Go.RowKit Go.Maps Go.WideMaps
set_option maxRecDepth 100000

theorem list_0 (d : Nat) (ops f : Int) (w : World) (h : Dk w d (.map []) ops f false) : Calls Tryz.prog 23 #[.pointer (some ⟨d, 0, none⟩)] w fun e w' => e = .returned (.tuple #[.slice none 0 0, .int .i64 0]) ∧ Below w.heap.size w w' := by
  obtain ⟨ms, mf, ch, q, u, n, hB, hm, hn⟩ := h
  have c6 : w.cell? ⟨d, 6, none⟩ = some (.bool false) := (hB.cell 6).trans rfl
  have c0 : w.cell? ⟨d, 0, none⟩ = some (.map (some ms)) := (hB.cell 0).trans rfl
  have HM := Lib.hid hm
  clear hB hm
  go_enter Tryz.func23, Tryz.ntmps23
  go_wp2_with (first | (go_at_call 50; refine (rising_0 _ _ _ HM.out).mono ?_; rintro e w1 ⟨rfl, hb1⟩) | go_in)
  go_ret2
  exact ⟨rfl, hb1⟩
def OneList (w : World) (e : Ending) (w' : World) : Prop := ∃ A c, e = .returned (.tuple #[.slice A 1 c, .int .i64 0]) ∧ Below w.heap.size w w'
theorem list_1 (d b : Nat) (ops f : Int) (w : World) (h : Dk w d (.map [(.string [97], .lit (.int .u64 b))]) ops f false) : Calls Tryz.prog 23 #[.pointer (some ⟨d, 0, none⟩)] w (OneList w) := by
  obtain ⟨ms, mf, ch, q, u, n, hB, hm, hn⟩ := h
  have c6 : w.cell? ⟨d, 6, none⟩ = some (.bool false) := (hB.cell 6).trans rfl
  have c0 : w.cell? ⟨d, 0, none⟩ = some (.map (some ms)) := (hB.cell 0).trans rfl
  have HM := Lib.hid hm
  clear hB hm
  go_enter Tryz.func23, Tryz.ntmps23
  go_wp2_with (first | (go_at_call 50; refine (rising_1 _ _ _ _ HM.out).mono ?_; rintro e w1 ⟨A, c, rfl, hb1⟩) | go_in)
  go_ret2
  exact ⟨A, c, rfl, hb1⟩
theorem list_dead (d : Nat) (D : DataW Unit) (ops f : Int) (w : World) (h : Dk w d D ops f true) : Calls Tryz.prog 23 #[.pointer (some ⟨d, 0, none⟩)] w fun e w' => e = .returned (.tuple #[.slice none 0 0, .int .i64 34]) ∧ w = w' := by
  obtain ⟨ms, mf, ch, q, u, n, hB, hm, hn⟩ := h
  have c6 : w.cell? ⟨d, 6, none⟩ = some (.bool true) := (hB.cell 6).trans rfl
  clear hB hm
  go_enter Tryz.func23, Tryz.ntmps23
  go_wp2
  go_ret2
  exact ⟨rfl, rfl⟩
theorem name_cat (w : World) : Calls Tryz.prog 15 #[.agg #[.int .i64 4, .int .i64 0, .int .i64 0, .bool false]] w fun e w' => e = .returned (.string ⟨#[99, 97, 116, 97, 108, 111, 103]⟩) ∧ Below w.heap.size w w' := by
  go_enter Tryz.func15, Tryz.ntmps15
  go_wp2
  go_ret
  exact ⟨rfl, (Below.refl _ _).alloc (Nat.le_refl _) _⟩
theorem load_0 (d : Nat) (ops f : Int) (w : World) (h : Dk w d (.map []) ops f false) : Calls Tryz.prog 32 #[.pointer (some ⟨d, 0, none⟩)] w fun e w' => e = .returned (.tuple #[.agg #[.int .i64 0, .slice none 0 0], .int .i64 31]) ∧ Below w.heap.size w w' := by
  have HD := Lib.hid h
  have hlt := h.lt
  clear h
  go_enter Tryz.func32, Tryz.ntmps32
  go_wp2_with (first
    | (go_at_call 15; refine (name_cat _).mono ?_; rintro e w1 ⟨rfl, hb1⟩; have hB1 : Below w.heap.size w w1 := ((Below.refl _ _).alloc (Nat.le_refl _) _).trans (hb1.mono (by simp)); have c1 : Blk w1 w.heap.size 50 #[.int .i64 0, .slice none 0 0] := (Blk.new w _ _).below hb1 (by simp); have C1 := Lib.hid c1; clear hb1 c1)
    | (go_at_call 96; refine (size_cat _ _ _ _ (HD.out.below hB1)).mono ?_; rintro e w2 ⟨rfl, hb2⟩; have hB2 : Below w.heap.size w w2 := hB1.trans (hb2.mono hB1.size); have c2 : w2.cell? ⟨w.heap.size, 0, none⟩ = some (.int .i64 0) := ((C1.out.below hb2 C1.out.lt).cell 0).trans rfl; have c3 : w2.cell? ⟨w.heap.size, 1, none⟩ = some (.slice none 0 0) := ((C1.out.below hb2 C1.out.lt).cell 1).trans rfl; have f2 : w2.frozen? ⟨w.heap.size, 0, none⟩ = false := (C1.out.below hb2 C1.out.lt).frozen 0; have f3 : w2.frozen? ⟨w.heap.size, 1, none⟩ = false := (C1.out.below hb2 C1.out.lt).frozen 1)
    | go_in)
  refine bodyPost_ret (v := .tuple #[.agg #[.int .i64 0, .slice none 0 0], .int .i64 31]) (by simp [results, Tryz.results32, go_sem, c2, c3]) rfl ⟨rfl, ?_⟩
  repeat (first | exact hB2 | refine Below.setCell ?_ (by exact Nat.le_refl _) _)
/-- what all looks begin with, on a disk without a catalogue and without files -/
def LookC (d : Nat) : Array Value := #[.pointer (some ⟨d, 0, none⟩), .slice none 0 0, .int .i64 0, .slice none 0 0, .int .i64 31]
def Look0 (d : Nat) (w : World) (e : Ending) (w' : World) : Prop := ∃ k, e = .returned (.tuple #[.pointer (some ⟨k, 0, none⟩), .int .i64 0]) ∧ Blk w' k 52 (LookC d) ∧ w.heap.size ≤ k ∧ Below w.heap.size w w'
theorem look_0 (d : Nat) (ops f : Int) (w : World) (h : Dk w d (.map []) ops f false) : Calls Tryz.prog 13 #[.pointer (some ⟨d, 0, none⟩)] w (Look0 d w) := by
  have HD := Lib.hid h
  have hlt := h.lt
  clear h
  go_enter Tryz.func13, Tryz.ntmps13
  go_wp2_with (first
    | (go_at_call 23; refine (list_0 _ _ _ _ HD.out).mono ?_; rintro e w1 ⟨rfl, hb1⟩; have HD1 := Lib.hid (HD.out.below hb1))
    | (go_at_call 32; refine (load_0 _ _ _ _ (HD1.out.below ((Below.refl _ _).alloc (Nat.le_refl _) _))).mono ?_; rintro e w2 ⟨rfl, hb2⟩; have HB1 := Lib.hid hb1; have HB2 := Lib.hid hb2; have HC : Hid (Blk w2 w1.heap.size 52 _) := (Blk.new w1 _ _).below hb2 (by simp); clear hb1 hb2; have c2 : w2.cell? ⟨w1.heap.size, 2, none⟩ = some (.int .i64 0) := (HC.out.cell 2).trans rfl; have c3 : w2.cell? ⟨w1.heap.size, 3, none⟩ = some (.slice none 0 0) := (HC.out.cell 3).trans rfl;  have c4 : w2.cell? ⟨w1.heap.size, 4, none⟩ = some (.int .i64 0) := (HC.out.cell 4).trans rfl; have f2 := HC.out.frozen 2; have f3 := HC.out.frozen 3; have f4 := HC.out.frozen 4)
    | fail)
  go_ret2
  have hb : Below w.heap.size w w2 := (HB1.out.alloc HB1.out.size _).trans (HB2.out.mono (by simp; exact Nat.le_succ_of_le HB1.out.size))
  exact ⟨w1.heap.size, rfl, ((HC.out.set_ 2 _).set_ 3 _).set_ 4 _, HB1.out.size, ((hb.setCell (by exact HB1.out.size) _).setCell (by exact HB1.out.size) _).setCell (by exact HB1.out.size) _⟩
theorem look_nil (w : World) : Calls Tryz.prog 13 #[.pointer none] w fun e w' => e = .returned (.tuple #[.pointer none, .int .i64 1]) ∧ w = w' := by
  go_enter Tryz.func13, Tryz.ntmps13
  go_wp2_with fail
  go_ret2
  exact ⟨rfl, rfl⟩
theorem look_dead (d : Nat) (D : DataW Unit) (ops f : Int) (w : World) (h : Dk w d D ops f true) : Calls Tryz.prog 13 #[.pointer (some ⟨d, 0, none⟩)] w fun e w' => e = .returned (.tuple #[.pointer none, .int .i64 34]) ∧ w = w' := by
  have HD := Lib.hid h
  clear h
  go_enter Tryz.func13, Tryz.ntmps13
  go_wp2_with (first | (go_at_call 23; refine (list_dead _ _ _ _ _ HD.out).mono ?_; rintro e w1 ⟨rfl, rfl⟩) | fail)
  go_ret2
  exact ⟨rfl, rfl⟩
end Go.Proofs.YtjmhpmhadaenjabGreatDoor.fk
