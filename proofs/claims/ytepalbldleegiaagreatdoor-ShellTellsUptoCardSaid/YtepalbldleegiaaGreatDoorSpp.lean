/-
  The law's small line, written and read: walked.
  Conditions: the tables are as they were laid.
-/
import Derived.Test.YtepalbldleegiaaGreatDoorSpo
namespace Go.Proofs.YtepalbldleegiaaGreatDoor.sh
open Go.RowKit
open Go.Lib (itoa decDigits byteCells atoiAll)

def cW : Cmd := { cmd0 with verb := 5, picks := [0, -1, 7] }
def lW : Bs := [115, 116, 101, 112, 115, 32, 48, 32, 45, 49, 32, 55]
theorem print_W : printL cW = some lW := by decide +kernel
theorem ints_W : ints cW := by
  refine ⟨by decide, fun x hx => ?_⟩
  simp only [cW, cmd0, req0, List.cons_append, List.nil_append, List.mem_cons, List.not_mem_nil, or_false] at hx
  omega
theorem parse_W : parseL lW = some cW := parse_print cW lW ints_W print_W
theorem cmdI_W : cmdI cW := cmdI_of ints_W ⟨by decide, by unfold lensR; decide, by decide, by decide⟩
theorem bytes_nil {w : World} {B : Nat} {A : Option Addr} : BytesAt w B A [] := fun h => absurd rfl h
theorem ints_nil {w : World} {B : Nat} {A : Option Addr} : IntsAt w B A [] := fun h => absurd rfl h
theorem bytes_below {w w' : World} {D : Option Addr} {l : Bs} (h : BytesAt w w.heap.size D l) (hb : Below w.heap.size w w') : BytesAt w' w'.heap.size D l := h.up hb
def zW (g : Nat) : Array Value := #[.int .i64 5, .int .i64 0, .int .u32 0, .int .i64 0, .string ⟨#[]⟩, .string ⟨#[]⟩, .string ⟨#[]⟩, .int .i64 0, .int .i64 0, .int .i64 0, .int .i64 0, .slice none 0 0, .int .i64 0, .slice (some ⟨g, 0, none⟩) 3 3]
theorem zW_eq (g : Nat) : cmdC cW nilS (.slice (some ⟨g, 0, none⟩) 3 3) = zW g := rfl
set_option maxRecDepth 100000 in
set_option maxHeartbeats 8000000 in
theorem works_any (w : World) (ht : Tab w) (hu : Use w) (he : Errs w) : Calls Tryz.prog 16 #[] w fun e w' => e = .returned (.bool true) ∧ Below w.heap.size w w' := by
  have hb1 : Below w.heap.size w (w.alloc (.cells #[.int .i64 0, .int .i64 (-1), .int .i64 7] 3)) := (Below.refl _ _).alloc (Nat.le_refl _) _
  have hI1 := Blk.new w 3 #[.int .i64 0, .int .i64 (-1), .int .i64 7]
  have hb2 : Below w.heap.size w ((w.alloc (.cells #[.int .i64 0, .int .i64 (-1), .int .i64 7] 3)).alloc (.cells (cmdC cW nilS (.slice (some ⟨w.heap.size, 0, none⟩) 3 3)) 28)) := hb1.alloc hb1.size _
  have hT2 := Blk.new (w.alloc (.cells #[.int .i64 0, .int .i64 (-1), .int .i64 7] 3)) 28 (cmdC cW nilS (.slice (some ⟨w.heap.size, 0, none⟩) 3 3))
  have hI2 := hI1.alloc (.cells (cmdC cW nilS (.slice (some ⟨w.heap.size, 0, none⟩) 3 3)) 28)
  rw [World.size_alloc] at hT2
  clear hb1 hI1
  rw [zW_eq] at hb2 hT2 hI2
  unfold zW at hb2 hT2 hI2
  go_enter Tryz.func16, Tryz.ntmps16
  go_upto_region 2 with fail
  generalize hw0 : (w.alloc _).alloc _ = w0 at hb2 hT2 hI2 ⊢
  have HB0 := Lib.hid hb2
  have HT0 : Hid (Blk w0 (w.heap.size + 1) 28 (cmdC cW (.slice none cW.raw.length 0) (.slice (some ⟨w.heap.size, 0, none⟩) cW.picks.length 3))) := hT2
  have HI0 := Lib.hid hI2
  clear hw0 hb2 hT2 hI2
  have HIA : Hid (∀ w', Below w0.heap.size w0 w' → IntsAt w' w'.heap.size (some ⟨w.heap.size, 0, none⟩) cW.picks) := Lib.hid fun w' hb hn => ⟨w.heap.size, 0, rfl, Nat.lt_of_lt_of_le HI0.out.lt hb.size, fun i x hx => by
    rw [(HI0.out.below hb HI0.out.lt).cell, Nat.zero_add]
    have hx' : ([0, -1, 7] : List Int)[i]? = some x := hx
    match i, hx' with
    | 0, hx' => injection hx' with hx'; subst hx'; rfl
    | 1, hx' => injection hx' with hx'; subst hx'; rfl
    | 2, hx' => injection hx' with hx'; subst hx'; rfl
    | i + 3, hx' => simp at hx'⟩
  go_wp2_with (first
    | ((with_reducible refine at_op ⟨_, .load 28 (.tmp 1), _, _, _, _⟩ ?_); refine wpList_load_list rfl 28 (.tmp 1) rfl ⟨w.heap.size + 1, 0, none⟩ rfl (cmdL cW (.slice none cW.raw.length 0) (.slice (some ⟨w.heap.size, 0, none⟩) cW.picks.length 3)) (cmd_load HT0.out) _ Tryz.underlying28 rfl (by kernel_rfl) ?_)
    | fail)
  have hpr := print_any cW none 0 (some ⟨w.heap.size, 0, none⟩) 3 w0 (tab_below ht HB0.out) (use_below hu HB0.out) cmdI_W bytes_nil (HIA.out w0 (Below.refl _ _))
  rw [cmdC_L, print_W] at hpr
  refine hpr.mono ?_
  clear hpr
  rintro e w1 ⟨rfl, hb1⟩
  have HB1 : Hid (Below w0.heap.size w0 w1) := hb1
  have HBW1 : Hid (Below w.heap.size w w1) := HB0.out.trans (hb1.mono HB0.out.size)
  clear hb1
  unfold prV
  have hpa := parse_any lW (by decide) w1 (tab_below ht HBW1.out) (use_below hu HBW1.out) (he.below HBW1.out)
  rw [parse_W] at hpa
  go_wp2_with fail
  refine hpa.mono ?_
  clear hpa
  rintro e w2 ⟨sR, sP, rfl, hb2, hoR, hoP⟩
  obtain ⟨X, cX, rfl⟩ := own_sl hoR
  obtain ⟨Y, cY, rfl⟩ := own_sl hoP
  have HBW2 : Hid (Below w0.heap.size w0 w2) := HB1.out.trans (hb2.mono HB1.out.size)
  have HOR := Lib.hid (bytes_of_own hoR)
  have HOP := Lib.hid (ints_of_own hoP)
  clear hb2 hoR hoP
  rw [cmdC_L]
  go_upto_region 4 with (first
    | ((with_reducible refine at_op ⟨_, .store 28 (.tmp 4) (.tmp 15), _, _, _, _⟩ ?_); refine wpList_store_blk rfl 28 (.tmp 4) (.tmp 15) rfl w2.heap.size 0 rfl (cmdL cW (.slice X cW.raw.length cX) (.slice Y cW.picks.length cY)) rfl (cmdL_one _ _ _ _ _ _ _) 28 zC (Blk.new w2 28 zC) (show 0 + 14 ≤ 14 from Nat.le_refl 14) (by kernel_rfl) ?_; intro w3 hT3 hg3 hs3; rw [put_cmd _ rfl] at hT3; have HT3 := Lib.hid hT3; have HB3 : Hid (Below w2.heap.size w2 w3) := below_gb ((Below.refl _ _).alloc (Nat.le_refl _) _) hg3 (le_alloc _ (Nat.le_refl _)) (Nat.le_refl _); clear hT3 hg3 hs3)
    | fail)
  have HBW3 : Hid (Below w0.heap.size w0 w3) := HBW2.out.trans (HB3.out.mono HBW2.out.size)
  have HT03 : Hid (Blk w3 (w.heap.size + 1) 28 (cmdC cW (.slice none cW.raw.length 0) (.slice (some ⟨w.heap.size, 0, none⟩) cW.picks.length 3))) := HT0.out.below HBW3.out HT0.out.lt
  have q0 : w3.cell? ⟨w.heap.size + 1, 0, none⟩ = some (.int .i64 5) := HT03.out.cell 0
  have q1 : w3.cell? ⟨w.heap.size + 1, 1, none⟩ = some (.int .i64 0) := HT03.out.cell 1
  have q2 : w3.cell? ⟨w.heap.size + 1, 2, none⟩ = some (.int .u32 0) := HT03.out.cell 2
  have q3 : w3.cell? ⟨w.heap.size + 1, 3, none⟩ = some (.int .i64 0) := HT03.out.cell 3
  have q4 : w3.cell? ⟨w.heap.size + 1, 4, none⟩ = some (.string ⟨#[]⟩) := HT03.out.cell 4
  have q5 : w3.cell? ⟨w.heap.size + 1, 5, none⟩ = some (.string ⟨#[]⟩) := HT03.out.cell 5
  have q6 : w3.cell? ⟨w.heap.size + 1, 6, none⟩ = some (.string ⟨#[]⟩) := HT03.out.cell 6
  have q7 : w3.cell? ⟨w.heap.size + 1, 7, none⟩ = some (.int .i64 0) := HT03.out.cell 7
  have q8 : w3.cell? ⟨w.heap.size + 1, 8, none⟩ = some (.int .i64 0) := HT03.out.cell 8
  have q9 : w3.cell? ⟨w.heap.size + 1, 9, none⟩ = some (.int .i64 0) := HT03.out.cell 9
  have q10 : w3.cell? ⟨w.heap.size + 1, 10, none⟩ = some (.int .i64 0) := HT03.out.cell 10
  have q11 : w3.cell? ⟨w.heap.size + 1, 11, none⟩ = some (.slice none 0 0) := HT03.out.cell 11
  have q12 : w3.cell? ⟨w.heap.size + 1, 12, none⟩ = some (.int .i64 0) := HT03.out.cell 12
  have q13 : w3.cell? ⟨w.heap.size + 1, 13, none⟩ = some (.slice (some ⟨w.heap.size, 0, none⟩) 3 3) := HT03.out.cell 13
  have u0 : w3.cell? ⟨w2.heap.size, 0, none⟩ = some (.int .i64 5) := HT3.out.cell 0
  have u1 : w3.cell? ⟨w2.heap.size, 1, none⟩ = some (.int .i64 0) := HT3.out.cell 1
  have u2 : w3.cell? ⟨w2.heap.size, 2, none⟩ = some (.int .u32 0) := HT3.out.cell 2
  have u3 : w3.cell? ⟨w2.heap.size, 3, none⟩ = some (.int .i64 0) := HT3.out.cell 3
  have u4 : w3.cell? ⟨w2.heap.size, 4, none⟩ = some (.string ⟨#[]⟩) := HT3.out.cell 4
  have u5 : w3.cell? ⟨w2.heap.size, 5, none⟩ = some (.string ⟨#[]⟩) := HT3.out.cell 5
  have u6 : w3.cell? ⟨w2.heap.size, 6, none⟩ = some (.string ⟨#[]⟩) := HT3.out.cell 6
  have u7 : w3.cell? ⟨w2.heap.size, 7, none⟩ = some (.int .i64 0) := HT3.out.cell 7
  have u8 : w3.cell? ⟨w2.heap.size, 8, none⟩ = some (.int .i64 0) := HT3.out.cell 8
  have u9 : w3.cell? ⟨w2.heap.size, 9, none⟩ = some (.int .i64 0) := HT3.out.cell 9
  have u10 : w3.cell? ⟨w2.heap.size, 10, none⟩ = some (.int .i64 0) := HT3.out.cell 10
  have u11 : w3.cell? ⟨w2.heap.size, 11, none⟩ = some (.slice X 0 cX) := HT3.out.cell 11
  have u12 : w3.cell? ⟨w2.heap.size, 12, none⟩ = some (.int .i64 0) := HT3.out.cell 12
  have u13 : w3.cell? ⟨w2.heap.size, 13, none⟩ = some (.slice Y 3 cY) := HT3.out.cell 13
  have hst : (S lW).toList = [115, 116, 101, 112, 115, 32, 48, 32, 45, 49, 32, 55] := S_list _
  go_wp2_with fail
  refine (same_true cW none X (some ⟨w.heap.size, 0, none⟩) Y 0 cX 3 cY w3 bytes_nil bytes_nil (HIA.out w3 HBW3.out) (HOP.out.up HB3.out) (by decide) (by decide)).mono ?_
  rintro e w4 ⟨rfl, hb4⟩
  have HB4 : Hid (Below w.heap.size w w4) := HB0.out.trans ((HBW3.out.trans (hb4.mono HBW3.out.size)).mono HB0.out.size)
  clear hb4
  go_wp2_with fail
  go_ret
  exact ⟨rfl, HB4.out⟩
end Go.Proofs.YtepalbldleegiaaGreatDoor.sh
