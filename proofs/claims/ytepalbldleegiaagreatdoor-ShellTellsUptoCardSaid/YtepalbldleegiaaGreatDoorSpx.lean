/-
  The law ShellTells, walked: of two responses, each of at most a megabyte.
  Conditions: those of the row; the tables are as they were laid.
-/
import Derived.Test.YtepalbldleegiaaGreatDoorSpt
import Derived.Test.YtepalbldleegiaaGreatDoorSpu
import Derived.Test.YtepalbldleegiaaGreatDoorSpp
namespace Go.Proofs.YtepalbldleegiaaGreatDoor.sh
open Go.RowKit
open Go.Lib (itoa decDigits byteCells atoiAll)

theorem over_not {r : Rsp Rec} (hN : lenN r.names ≤ 1048576) (hR : lenR r.recs ≤ 1048576) : over r = false := decide_eq_false (by omega)
theorem show_num {a : Bool} (b : Bool) (h : a = b) : (a == b) = true := by subst h; simp

set_option maxRecDepth 100000 in
set_option maxHeartbeats 8000000 in
theorem tells_any (r r' : Rsp Rec) (A A' D D' : Option Addr) (c c' d d' : Nat) (w : World) (ht : Tab w) (hu : Use w) (he : Errs w) (hcd : Cod w)
    (hid : 0 ≤ r.id ∧ r.id < 4294967296) (hop : I64 r.op) (hco : I64 r.code) (hof : I64 r.off) (hnu : I64 r.num) (hnm : NamesAt w w.heap.size D r.names) (hN : lenN r.names ≤ 1048576) (hrc : RecsAt w w.heap.size A r.recs) (hrk : ∀ x ∈ r.recs, x.ok) (hR : lenR r.recs ≤ 1048576)
    (hid' : 0 ≤ r'.id ∧ r'.id < 4294967296) (hop' : I64 r'.op) (hco' : I64 r'.code) (hof' : I64 r'.off) (hnu' : I64 r'.num) (hnm' : NamesAt w w.heap.size D' r'.names) (hN' : lenN r'.names ≤ 1048576) (hrc' : RecsAt w w.heap.size A' r'.recs) (hrk' : ∀ x ∈ r'.recs, x.ok) (hR' : lenR r'.recs ≤ 1048576) :
    Calls Tryz.prog 7 #[rspV r A c D d, rspV r' A' c' D' d'] w fun e w' => e = .returned (.bool true) ∧ Below w.heap.size w w' := by
  have hT1 := (Blk.new w 45 #[.int .u32 r.id, .int .i64 r.op, .int .i64 r.code, .int .i64 r.off, .int .i64 r.num, .bool r.more, .slice A r.recs.length c, .slice D r.names.length d]).alloc (.cells #[.int .u32 r'.id, .int .i64 r'.op, .int .i64 r'.code, .int .i64 r'.off, .int .i64 r'.num, .bool r'.more, .slice A' r'.recs.length c', .slice D' r'.names.length d'] 45)
  have hT2 := Blk.new (w.alloc (.cells #[.int .u32 r.id, .int .i64 r.op, .int .i64 r.code, .int .i64 r.off, .int .i64 r.num, .bool r.more, .slice A r.recs.length c, .slice D r.names.length d] 45)) 45 #[.int .u32 r'.id, .int .i64 r'.op, .int .i64 r'.code, .int .i64 r'.off, .int .i64 r'.num, .bool r'.more, .slice A' r'.recs.length c', .slice D' r'.names.length d']
  rw [World.size_alloc] at hT2
  have hb1 : Below w.heap.size w (w.alloc (.cells #[.int .u32 r.id, .int .i64 r.op, .int .i64 r.code, .int .i64 r.off, .int .i64 r.num, .bool r.more, .slice A r.recs.length c, .slice D r.names.length d] 45)) := (Below.refl _ _).alloc (Nat.le_refl _) _
  have hb0 := hb1.alloc hb1.size (.cells #[.int .u32 r'.id, .int .i64 r'.op, .int .i64 r'.code, .int .i64 r'.off, .int .i64 r'.num, .bool r'.more, .slice A' r'.recs.length c', .slice D' r'.names.length d'] 45)
  have HTAB := Lib.hid ht
  have HUSE := Lib.hid hu
  have HERR := Lib.hid he
  have HCOD := Lib.hid hcd
  have HNM := Lib.hid hnm
  have HRC := Lib.hid hrc
  have HRK := Lib.hid hrk
  have HN := Lib.hid hN
  have HR := Lib.hid hR
  have HIN : Hid (0 ≤ r.id ∧ r.id < 4294967296 ∧ I64 r.op ∧ I64 r.code ∧ I64 r.off ∧ I64 r.num) := ⟨hid.1, hid.2, hop, hco, hof, hnu⟩
  have HNM' := Lib.hid hnm'
  have HRC' := Lib.hid hrc'
  have HRK' := Lib.hid hrk'
  have HN' := Lib.hid hN'
  have HR' := Lib.hid hR'
  have HIN' : Hid (0 ≤ r'.id ∧ r'.id < 4294967296 ∧ I64 r'.op ∧ I64 r'.code ∧ I64 r'.off ∧ I64 r'.num) := ⟨hid'.1, hid'.2, hop', hco', hof', hnu'⟩
  clear hb1 ht hu he hcd hnm hrc hrk hN hR hid hop hco hof hnu hnm' hrc' hrk' hN' hR' hid' hop' hco' hof' hnu'
  unfold rspV
  go_enter Tryz.func7, Tryz.ntmps7
  go_upto_region 1 with fail
  generalize hw0 : (w.alloc _).alloc _ = w0 at hT1 hT2 hb0 ⊢
  have HB0 := Lib.hid hb0
  have HT0 := Lib.hid hT1
  have HU0 := Lib.hid hT2
  clear hw0 hb0 hT1 hT2
  have q0 : w0.cell? ⟨w.heap.size, 0, none⟩ = some (.int .u32 r.id) := HT0.out.cell 0
  have q1 : w0.cell? ⟨w.heap.size, 1, none⟩ = some (.int .i64 r.op) := HT0.out.cell 1
  have q2 : w0.cell? ⟨w.heap.size, 2, none⟩ = some (.int .i64 r.code) := HT0.out.cell 2
  have q3 : w0.cell? ⟨w.heap.size, 3, none⟩ = some (.int .i64 r.off) := HT0.out.cell 3
  have q4 : w0.cell? ⟨w.heap.size, 4, none⟩ = some (.int .i64 r.num) := HT0.out.cell 4
  have q5 : w0.cell? ⟨w.heap.size, 5, none⟩ = some (.bool r.more) := HT0.out.cell 5
  have q6 : w0.cell? ⟨w.heap.size, 6, none⟩ = some (.slice A r.recs.length c) := HT0.out.cell 6
  have q7 : w0.cell? ⟨w.heap.size, 7, none⟩ = some (.slice D r.names.length d) := HT0.out.cell 7
  have t0 : w0.cell? ⟨w.heap.size + 1, 0, none⟩ = some (.int .u32 r'.id) := HU0.out.cell 0
  have t1 : w0.cell? ⟨w.heap.size + 1, 1, none⟩ = some (.int .i64 r'.op) := HU0.out.cell 1
  have t2 : w0.cell? ⟨w.heap.size + 1, 2, none⟩ = some (.int .i64 r'.code) := HU0.out.cell 2
  have t3 : w0.cell? ⟨w.heap.size + 1, 3, none⟩ = some (.int .i64 r'.off) := HU0.out.cell 3
  have t4 : w0.cell? ⟨w.heap.size + 1, 4, none⟩ = some (.int .i64 r'.num) := HU0.out.cell 4
  have t5 : w0.cell? ⟨w.heap.size + 1, 5, none⟩ = some (.bool r'.more) := HU0.out.cell 5
  have t6 : w0.cell? ⟨w.heap.size + 1, 6, none⟩ = some (.slice A' r'.recs.length c') := HU0.out.cell 6
  have t7 : w0.cell? ⟨w.heap.size + 1, 7, none⟩ = some (.slice D' r'.names.length d') := HU0.out.cell 7
  go_wp2_with fail
  refine (beyond_any r A c D d w0 (names_up HNM.out HB0.out) (recs_up HRC.out HB0.out) ?_ ?_ ?_ ?_).mono ?_
  · intro x hx
    have := lenN_mem hx
    have := HN.out
    omega
  · intro x hx
    have := lenR_mem hx
    have := HR.out
    omega
  · exact Nat.le_trans (lenN_ge _) (Nat.le_trans HN.out (by decide))
  · exact Nat.le_trans (lenR_ge _) (Nat.le_trans HR.out (by decide))
  rintro e w1 ⟨rfl, hb⟩
  rw [over_not HN.out HR.out]
  clear q0 t0 q1 t1 q2 t2 q3 t3 q4 t4 q5 t5 q6 t6 q7 t7
  have HB1 : Hid (Below w.heap.size w w1) := HB0.out.trans (hb.mono HB0.out.size)
  have HT1 := Lib.hid (HT0.out.below hb HT0.out.lt)
  have HU1 := Lib.hid (HU0.out.below hb HU0.out.lt)
  clear hb HT0 HU0 HB0
  have q0 : w1.cell? ⟨w.heap.size, 0, none⟩ = some (.int .u32 r.id) := HT1.out.cell 0
  have q1 : w1.cell? ⟨w.heap.size, 1, none⟩ = some (.int .i64 r.op) := HT1.out.cell 1
  have q2 : w1.cell? ⟨w.heap.size, 2, none⟩ = some (.int .i64 r.code) := HT1.out.cell 2
  have q3 : w1.cell? ⟨w.heap.size, 3, none⟩ = some (.int .i64 r.off) := HT1.out.cell 3
  have q4 : w1.cell? ⟨w.heap.size, 4, none⟩ = some (.int .i64 r.num) := HT1.out.cell 4
  have q5 : w1.cell? ⟨w.heap.size, 5, none⟩ = some (.bool r.more) := HT1.out.cell 5
  have q6 : w1.cell? ⟨w.heap.size, 6, none⟩ = some (.slice A r.recs.length c) := HT1.out.cell 6
  have q7 : w1.cell? ⟨w.heap.size, 7, none⟩ = some (.slice D r.names.length d) := HT1.out.cell 7
  have t0 : w1.cell? ⟨w.heap.size + 1, 0, none⟩ = some (.int .u32 r'.id) := HU1.out.cell 0
  have t1 : w1.cell? ⟨w.heap.size + 1, 1, none⟩ = some (.int .i64 r'.op) := HU1.out.cell 1
  have t2 : w1.cell? ⟨w.heap.size + 1, 2, none⟩ = some (.int .i64 r'.code) := HU1.out.cell 2
  have t3 : w1.cell? ⟨w.heap.size + 1, 3, none⟩ = some (.int .i64 r'.off) := HU1.out.cell 3
  have t4 : w1.cell? ⟨w.heap.size + 1, 4, none⟩ = some (.int .i64 r'.num) := HU1.out.cell 4
  have t5 : w1.cell? ⟨w.heap.size + 1, 5, none⟩ = some (.bool r'.more) := HU1.out.cell 5
  have t6 : w1.cell? ⟨w.heap.size + 1, 6, none⟩ = some (.slice A' r'.recs.length c') := HU1.out.cell 6
  have t7 : w1.cell? ⟨w.heap.size + 1, 7, none⟩ = some (.slice D' r'.names.length d') := HU1.out.cell 7
  go_wp2_with fail
  refine (beyond_any r' A' c' D' d' w1 (names_up HNM'.out HB1.out) (recs_up HRC'.out HB1.out) ?_ ?_ ?_ ?_).mono ?_
  · intro x hx
    have := lenN_mem hx
    have := HN'.out
    omega
  · intro x hx
    have := lenR_mem hx
    have := HR'.out
    omega
  · exact Nat.le_trans (lenN_ge _) (Nat.le_trans HN'.out (by decide))
  · exact Nat.le_trans (lenR_ge _) (Nat.le_trans HR'.out (by decide))
  rintro e w2 ⟨rfl, hb⟩
  rw [over_not HN'.out HR'.out]
  clear q0 t0 q1 t1 q2 t2 q3 t3 q4 t4 q5 t5 q6 t6 q7 t7
  have HB2 : Hid (Below w.heap.size w w2) := HB1.out.trans (hb.mono HB1.out.size)
  have HT2 := Lib.hid (HT1.out.below hb HT1.out.lt)
  have HU2 := Lib.hid (HU1.out.below hb HU1.out.lt)
  clear hb HT1 HU1 HB1
  have q0 : w2.cell? ⟨w.heap.size, 0, none⟩ = some (.int .u32 r.id) := HT2.out.cell 0
  have q1 : w2.cell? ⟨w.heap.size, 1, none⟩ = some (.int .i64 r.op) := HT2.out.cell 1
  have q2 : w2.cell? ⟨w.heap.size, 2, none⟩ = some (.int .i64 r.code) := HT2.out.cell 2
  have q3 : w2.cell? ⟨w.heap.size, 3, none⟩ = some (.int .i64 r.off) := HT2.out.cell 3
  have q4 : w2.cell? ⟨w.heap.size, 4, none⟩ = some (.int .i64 r.num) := HT2.out.cell 4
  have q5 : w2.cell? ⟨w.heap.size, 5, none⟩ = some (.bool r.more) := HT2.out.cell 5
  have q6 : w2.cell? ⟨w.heap.size, 6, none⟩ = some (.slice A r.recs.length c) := HT2.out.cell 6
  have q7 : w2.cell? ⟨w.heap.size, 7, none⟩ = some (.slice D r.names.length d) := HT2.out.cell 7
  have t0 : w2.cell? ⟨w.heap.size + 1, 0, none⟩ = some (.int .u32 r'.id) := HU2.out.cell 0
  have t1 : w2.cell? ⟨w.heap.size + 1, 1, none⟩ = some (.int .i64 r'.op) := HU2.out.cell 1
  have t2 : w2.cell? ⟨w.heap.size + 1, 2, none⟩ = some (.int .i64 r'.code) := HU2.out.cell 2
  have t3 : w2.cell? ⟨w.heap.size + 1, 3, none⟩ = some (.int .i64 r'.off) := HU2.out.cell 3
  have t4 : w2.cell? ⟨w.heap.size + 1, 4, none⟩ = some (.int .i64 r'.num) := HU2.out.cell 4
  have t5 : w2.cell? ⟨w.heap.size + 1, 5, none⟩ = some (.bool r'.more) := HU2.out.cell 5
  have t6 : w2.cell? ⟨w.heap.size + 1, 6, none⟩ = some (.slice A' r'.recs.length c') := HU2.out.cell 6
  have t7 : w2.cell? ⟨w.heap.size + 1, 7, none⟩ = some (.slice D' r'.names.length d') := HU2.out.cell 7
  go_wp2_with fail
  refine (show_any r A c D d w2 (tab_below HTAB.out HB2.out) (cod_below HCOD.out HB2.out) ⟨HIN.out.1, HIN.out.2.1⟩ HIN.out.2.2.1 HIN.out.2.2.2.1 HIN.out.2.2.2.2.1 HIN.out.2.2.2.2.2 (names_up HNM.out HB2.out) (Nat.le_trans HN.out (by decide)) (recs_up HRC.out HB2.out) HRK.out (Nat.le_trans HR.out (by decide))).mono ?_
  rintro e w3 ⟨rfl, hb⟩
  clear q0 t0 q1 t1 q2 t2 q3 t3 q4 t4 q5 t5 q6 t6 q7 t7
  have HB3 : Hid (Below w.heap.size w w3) := HB2.out.trans (hb.mono HB2.out.size)
  have HT3 := Lib.hid (HT2.out.below hb HT2.out.lt)
  have HU3 := Lib.hid (HU2.out.below hb HU2.out.lt)
  clear hb HT2 HU2 HB2
  have q0 : w3.cell? ⟨w.heap.size, 0, none⟩ = some (.int .u32 r.id) := HT3.out.cell 0
  have q1 : w3.cell? ⟨w.heap.size, 1, none⟩ = some (.int .i64 r.op) := HT3.out.cell 1
  have q2 : w3.cell? ⟨w.heap.size, 2, none⟩ = some (.int .i64 r.code) := HT3.out.cell 2
  have q3 : w3.cell? ⟨w.heap.size, 3, none⟩ = some (.int .i64 r.off) := HT3.out.cell 3
  have q4 : w3.cell? ⟨w.heap.size, 4, none⟩ = some (.int .i64 r.num) := HT3.out.cell 4
  have q5 : w3.cell? ⟨w.heap.size, 5, none⟩ = some (.bool r.more) := HT3.out.cell 5
  have q6 : w3.cell? ⟨w.heap.size, 6, none⟩ = some (.slice A r.recs.length c) := HT3.out.cell 6
  have q7 : w3.cell? ⟨w.heap.size, 7, none⟩ = some (.slice D r.names.length d) := HT3.out.cell 7
  have t0 : w3.cell? ⟨w.heap.size + 1, 0, none⟩ = some (.int .u32 r'.id) := HU3.out.cell 0
  have t1 : w3.cell? ⟨w.heap.size + 1, 1, none⟩ = some (.int .i64 r'.op) := HU3.out.cell 1
  have t2 : w3.cell? ⟨w.heap.size + 1, 2, none⟩ = some (.int .i64 r'.code) := HU3.out.cell 2
  have t3 : w3.cell? ⟨w.heap.size + 1, 3, none⟩ = some (.int .i64 r'.off) := HU3.out.cell 3
  have t4 : w3.cell? ⟨w.heap.size + 1, 4, none⟩ = some (.int .i64 r'.num) := HU3.out.cell 4
  have t5 : w3.cell? ⟨w.heap.size + 1, 5, none⟩ = some (.bool r'.more) := HU3.out.cell 5
  have t6 : w3.cell? ⟨w.heap.size + 1, 6, none⟩ = some (.slice A' r'.recs.length c') := HU3.out.cell 6
  have t7 : w3.cell? ⟨w.heap.size + 1, 7, none⟩ = some (.slice D' r'.names.length d') := HU3.out.cell 7
  go_wp2_with fail
  refine (show_any r' A' c' D' d' w3 (tab_below HTAB.out HB3.out) (cod_below HCOD.out HB3.out) ⟨HIN'.out.1, HIN'.out.2.1⟩ HIN'.out.2.2.1 HIN'.out.2.2.2.1 HIN'.out.2.2.2.2.1 HIN'.out.2.2.2.2.2 (names_up HNM'.out HB3.out) (Nat.le_trans HN'.out (by decide)) (recs_up HRC'.out HB3.out) HRK'.out (Nat.le_trans HR'.out (by decide))).mono ?_
  rintro e w4 ⟨rfl, hb⟩
  clear q0 t0 q1 t1 q2 t2 q3 t3 q4 t4 q5 t5 q6 t6 q7 t7
  have HB4 : Hid (Below w.heap.size w w4) := HB3.out.trans (hb.mono HB3.out.size)
  have HT4 := Lib.hid (HT3.out.below hb HT3.out.lt)
  have HU4 := Lib.hid (HU3.out.below hb HU3.out.lt)
  clear hb HT3 HU3 HB3
  go_wp2_with fail
  refine (works_any w4 (tab_below HTAB.out HB4.out) (use_below HUSE.out HB4.out) (HERR.out.below HB4.out)).mono ?_
  rintro e w5 ⟨rfl, hb⟩
  have HB5 : Hid (Below w.heap.size w w5) := HB4.out.trans (hb.mono HB4.out.size)
  have HT5 := Lib.hid (HT4.out.below hb HT4.out.lt)
  have HU5 := Lib.hid (HU4.out.below hb HU4.out.lt)
  clear hb HT4 HU4 HB4
  have q0 : w5.cell? ⟨w.heap.size, 0, none⟩ = some (.int .u32 r.id) := HT5.out.cell 0
  have q1 : w5.cell? ⟨w.heap.size, 1, none⟩ = some (.int .i64 r.op) := HT5.out.cell 1
  have q2 : w5.cell? ⟨w.heap.size, 2, none⟩ = some (.int .i64 r.code) := HT5.out.cell 2
  have q3 : w5.cell? ⟨w.heap.size, 3, none⟩ = some (.int .i64 r.off) := HT5.out.cell 3
  have q4 : w5.cell? ⟨w.heap.size, 4, none⟩ = some (.int .i64 r.num) := HT5.out.cell 4
  have q5 : w5.cell? ⟨w.heap.size, 5, none⟩ = some (.bool r.more) := HT5.out.cell 5
  have q6 : w5.cell? ⟨w.heap.size, 6, none⟩ = some (.slice A r.recs.length c) := HT5.out.cell 6
  have q7 : w5.cell? ⟨w.heap.size, 7, none⟩ = some (.slice D r.names.length d) := HT5.out.cell 7
  have t0 : w5.cell? ⟨w.heap.size + 1, 0, none⟩ = some (.int .u32 r'.id) := HU5.out.cell 0
  have t1 : w5.cell? ⟨w.heap.size + 1, 1, none⟩ = some (.int .i64 r'.op) := HU5.out.cell 1
  have t2 : w5.cell? ⟨w.heap.size + 1, 2, none⟩ = some (.int .i64 r'.code) := HU5.out.cell 2
  have t3 : w5.cell? ⟨w.heap.size + 1, 3, none⟩ = some (.int .i64 r'.off) := HU5.out.cell 3
  have t4 : w5.cell? ⟨w.heap.size + 1, 4, none⟩ = some (.int .i64 r'.num) := HU5.out.cell 4
  have t5 : w5.cell? ⟨w.heap.size + 1, 5, none⟩ = some (.bool r'.more) := HU5.out.cell 5
  have t6 : w5.cell? ⟨w.heap.size + 1, 6, none⟩ = some (.slice A' r'.recs.length c') := HU5.out.cell 6
  have t7 : w5.cell? ⟨w.heap.size + 1, 7, none⟩ = some (.slice D' r'.names.length d') := HU5.out.cell 7
  have HSL := Lib.hid (show_len r ⟨HIN.out.1, HIN.out.2.1⟩ HIN.out.2.2.1 HIN.out.2.2.2.1 HIN.out.2.2.2.2.1 HIN.out.2.2.2.2.2 (Nat.le_trans HN.out (by decide)) HRK.out (Nat.le_trans HR.out (by decide)))
  have HVS := Lib.hid (vis_show r)
  have HNE := Lib.hid (show_ne r)
  by_cases heq : showL r = showL r'
  · obtain rfl := show_inj _ _ heq
    clear heq
    obtain ⟨s, hs⟩ : ∃ s, s = showL r := ⟨_, rfl⟩
    rw [← hs] at HSL HVS HNE ⊢
    have hne : ((S s).toList == ([] : Bs)) = false := by rw [beq_eq_false_iff_ne, S_list]; exact HNE.out
    clear hs HNE
    go_wp2_with fail
    refine (equal_any r r A A' D D' c c' d d' true (fun _ => rfl) (fun h => absurd rfl h) w5 (names_up HNM.out HB5.out) (recs_up HRC.out HB5.out) (names_up HNM'.out HB5.out) (recs_up HRC'.out HB5.out) (Nat.le_trans (lenN_ge _) HN.out) (Nat.le_trans (lenR_ge _) HR.out)).mono ?_
    rintro e w6 ⟨rfl, hb⟩
    clear q0 t0 q1 t1 q2 t2 q3 t3 q4 t4 q5 t5 q6 t6 q7 t7
    have HB6 : Hid (Below w.heap.size w w6) := HB5.out.trans (hb.mono HB5.out.size)
    have HT6 := Lib.hid (HT5.out.below hb HT5.out.lt)
    have HU6 := Lib.hid (HU5.out.below hb HU5.out.lt)
    clear hb HT5 HU5 HB5
    go_wp2_with fail
    refine (visible_big s HSL.out HVS.out w6).mono ?_
    rintro e w7 ⟨rfl, rfl⟩
    go_wp2_with fail
    go_ret
    exact ⟨rfl, HB6.out⟩
  · have HDE : Hid (r ≠ r') := fun e => heq (by rw [e])
    obtain ⟨s, hs⟩ : ∃ s, s = showL r := ⟨_, rfl⟩
    obtain ⟨s', hs'⟩ : ∃ s', s' = showL r' := ⟨_, rfl⟩
    rw [← hs, ← hs'] at heq
    rw [← hs] at HSL HVS HNE ⊢
    rw [← hs']
    have hne : ((S s).toList == ([] : Bs)) = false := by rw [beq_eq_false_iff_ne, S_list]; exact HNE.out
    have hnq : ((S s).toList == (S s').toList) = false := by rw [beq_eq_false_iff_ne, S_list, S_list]; exact heq
    clear hs hs' HNE heq
    go_wp2_with fail
    refine (equal_any r r' A A' D D' c c' d d' false (fun h => absurd h HDE.out) (fun _ => rfl) w5 (names_up HNM.out HB5.out) (recs_up HRC.out HB5.out) (names_up HNM'.out HB5.out) (recs_up HRC'.out HB5.out) (Nat.le_trans (lenN_ge _) HN.out) (Nat.le_trans (lenR_ge _) HR.out)).mono ?_
    rintro e w6 ⟨rfl, hb⟩
    clear q0 t0 q1 t1 q2 t2 q3 t3 q4 t4 q5 t5 q6 t6 q7 t7
    have HB6 : Hid (Below w.heap.size w w6) := HB5.out.trans (hb.mono HB5.out.size)
    have HT6 := Lib.hid (HT5.out.below hb HT5.out.lt)
    have HU6 := Lib.hid (HU5.out.below hb HU5.out.lt)
    clear hb HT5 HU5 HB5
    go_wp2_with fail
    refine (visible_big s HSL.out HVS.out w6).mono ?_
    rintro e w7 ⟨rfl, rfl⟩
    go_wp2_with fail
    go_ret
    exact ⟨rfl, HB6.out⟩
end Go.Proofs.YtepalbldleegiaaGreatDoor.sh
