/-
  The law's last look at its copy: walked.
  Conditions: lists of at most a megabyte.
-/
import Derived.Test.YtepalbldleegiaaGreatDoorSzl
namespace Go.Proofs.YtepalbldleegiaaGreatDoor.sh
open Go.RowKit
open Go.Lib (itoa decDigits byteCells atoiAll)

set_option maxRecDepth 100000 in
set_option maxHeartbeats 8000000 in
theorem kept_any (c : Cmd) (A : Option Addr) (a : Nat) (P : Option Addr) (p : Nat) (bR kR bP kP : Nat) (w : World) (hr : BytesAt w w.heap.size A c.raw) (hp : IntsAt w w.heap.size P c.picks) (hl : c.raw.length ≤ 1048576) (hl' : c.picks.length ≤ 1048576)
    (hkR : c.raw.length + 1 ≤ kR) (hkP : c.picks.length + 1 ≤ kP) (hR : BytesAt w w.heap.size (some ⟨bR, 0, none⟩) c.raw) (hP : IntsAt w w.heap.size (some ⟨bP, 0, none⟩) c.picks)
    (hbR : bR < w.heap.size) (hbP : bP < w.heap.size) (m1 : w.cell? ⟨bR, c.raw.length, none⟩ = some (.int .u8 77)) (m2 : w.cell? ⟨bP, c.picks.length, none⟩ = some (.int .i64 (-77))) :
    Calls Tryz.prog 11 #[.agg (cmdC c (.slice (some ⟨bR, 0, none⟩) c.raw.length kR) (.slice (some ⟨bP, 0, none⟩) c.picks.length kP)), .agg (cmdC c (.slice A c.raw.length a) (.slice P c.picks.length p))] w fun e w' => e = .returned (.bool true) ∧ Below w.heap.size w w' := by
  have hT1 := (Blk.new w 28 (cmdC c (.slice (some ⟨bR, 0, none⟩) c.raw.length kR) (.slice (some ⟨bP, 0, none⟩) c.picks.length kP))).alloc (.cells (cmdC c (.slice A c.raw.length a) (.slice P c.picks.length p)) 28)
  have hT2 := Blk.new (w.alloc (.cells (cmdC c (.slice (some ⟨bR, 0, none⟩) c.raw.length kR) (.slice (some ⟨bP, 0, none⟩) c.picks.length kP)) 28)) 28 (cmdC c (.slice A c.raw.length a) (.slice P c.picks.length p))
  rw [World.size_alloc] at hT2
  have hb1 : Below w.heap.size w (w.alloc (.cells (cmdC c (.slice (some ⟨bR, 0, none⟩) c.raw.length kR) (.slice (some ⟨bP, 0, none⟩) c.picks.length kP)) 28)) := (Below.refl _ _).alloc (Nat.le_refl _) _
  have hb0 := hb1.alloc hb1.size (.cells (cmdC c (.slice A c.raw.length a) (.slice P c.picks.length p)) 28)
  have HR := Lib.hid hr
  have HP := Lib.hid hp
  have HR' := Lib.hid hR
  have HP' := Lib.hid hP
  have M1 : Hid (∀ w', Below w.heap.size w w' → w'.cell? ⟨bR, c.raw.length, none⟩ = some (.int .u8 77)) := Lib.hid fun w' hb => (hb.cell (p := ⟨bR, c.raw.length, none⟩) hbR).trans m1
  have M2 : Hid (∀ w', Below w.heap.size w w' → w'.cell? ⟨bP, c.picks.length, none⟩ = some (.int .i64 (-77))) := Lib.hid fun w' hb => (hb.cell (p := ⟨bP, c.picks.length, none⟩) hbP).trans m2
  have HL := Lib.hid hl
  have HL' := Lib.hid hl'
  clear hr hp hR hP hb1 m1 m2 hbR hbP
  generalize hcs : cmdC c (.slice (some ⟨bR, 0, none⟩) c.raw.length kR) (.slice (some ⟨bP, 0, none⟩) c.picks.length kP) = cs at hT1 hT2 hb0 ⊢
  generalize hcs' : cmdC c (.slice A c.raw.length a) (.slice P c.picks.length p) = cs' at hT1 hT2 hb0 ⊢
  have HCS := Lib.hid hcs
  have HCS' := Lib.hid hcs'
  clear hcs hcs'
  go_enter Tryz.func11, Tryz.ntmps11
  go_upto_region 1 with fail
  generalize hw0 : (w.alloc _).alloc _ = w0 at hT1 hT2 hb0 ⊢
  have HB0 := Lib.hid hb0
  have HT1 : Hid (Blk w0 w.heap.size 28 (cmdC c (.slice (some ⟨bR, 0, none⟩) c.raw.length kR) (.slice (some ⟨bP, 0, none⟩) c.picks.length kP))) := Lib.hid (by rw [HCS.out]; exact hT1)
  have HT2 : Hid (Blk w0 (w.heap.size + 1) 28 (cmdC c (.slice A c.raw.length a) (.slice P c.picks.length p))) := Lib.hid (by rw [HCS'.out]; exact hT2)
  clear hw0 hT1 hT2 hb0 HCS HCS'
  obtain ⟨rl, hrl⟩ : ∃ n, c.raw.length = n := ⟨_, rfl⟩
  obtain ⟨pl, hpl⟩ : ∃ n, c.picks.length = n := ⟨_, rfl⟩
  rw [hrl] at hl hkR M1
  rw [hpl] at hl' hkP M2
  have q11 : w0.cell? ⟨w.heap.size, 11, none⟩ = some (.slice (some ⟨bR, 0, none⟩) rl kR) := by rw [← hrl]; exact HT1.out.cell 11
  have q13 : w0.cell? ⟨w.heap.size, 13, none⟩ = some (.slice (some ⟨bP, 0, none⟩) pl kP) := by rw [← hpl]; exact HT1.out.cell 13
  have HRL := Lib.hid hrl
  have HPL := Lib.hid hpl
  clear hrl hpl
  go_upto_region 3 with fail
  clear hkR hkP q11 q13
  go_wp2_with (first
    | ((with_reducible refine at_op ⟨_, .load 28 (.tmp 2), _, _, _, _⟩ ?_); refine wpList_load_list rfl 28 (.tmp 2) rfl ⟨w.heap.size, 0, none⟩ rfl (cmdL c (.slice (some ⟨bR, 0, none⟩) c.raw.length kR) (.slice (some ⟨bP, 0, none⟩) c.picks.length kP)) (cmd_load HT1.out) _ Tryz.underlying28 rfl (by kernel_rfl) ?_)
    | ((with_reducible refine at_op ⟨_, .load 28 (.tmp 3), _, _, _, _⟩ ?_); refine wpList_load_list rfl 28 (.tmp 3) rfl ⟨w.heap.size + 1, 0, none⟩ rfl (cmdL c (.slice A c.raw.length a) (.slice P c.picks.length p)) (cmd_load HT2.out) _ Tryz.underlying28 rfl (by kernel_rfl) ?_)
    | fail)
  refine (same_eq c (some ⟨bR, 0, none⟩) A (some ⟨bP, 0, none⟩) P kR a kP p w0 (HR'.out.up HB0.out) (HR.out.up HB0.out) (HP'.out.up HB0.out) (HP.out.up HB0.out) HL.out HL'.out).mono ?_
  rintro e w1 ⟨rfl, hb1⟩
  have q11 : w1.cell? ⟨w.heap.size, 11, none⟩ = some (.slice (some ⟨bR, 0, none⟩) rl kR) := by rw [← HRL.out]; exact (HT1.out.below hb1 HT1.out.lt).cell 11
  have q13 : w1.cell? ⟨w.heap.size, 13, none⟩ = some (.slice (some ⟨bP, 0, none⟩) pl kP) := by rw [← HPL.out]; exact (HT1.out.below hb1 HT1.out.lt).cell 13
  have HB1 : Hid (Below w.heap.size w w1) := HB0.out.trans (hb1.mono HB0.out.size)
  have r1 : w1.cell? ⟨bR, rl, none⟩ = some (.int .u8 77) := M1.out w1 HB1.out
  have r2 : w1.cell? ⟨bP, pl, none⟩ = some (.int .i64 (-77)) := M2.out w1 HB1.out
  clear hb1
  go_wp2_with fail
  go_ret
  exact ⟨rfl, HB1.out⟩
end Go.Proofs.YtepalbldleegiaaGreatDoor.sh
