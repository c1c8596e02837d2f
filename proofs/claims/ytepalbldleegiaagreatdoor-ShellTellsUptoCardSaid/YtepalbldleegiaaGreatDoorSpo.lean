/-
  The law's own comparison of commands, and its look at a line: walked.
  Conditions: lists of at most a megabyte.
-/
import Derived.Test.YtepalbldleegiaaGreatDoorSpn
namespace Go.Proofs.YtepalbldleegiaaGreatDoor.sh
open Go.RowKit
open Go.Lib (itoa decDigits byteCells atoiAll)

theorem visible_any (l : Bs) (hl : l.length ≤ 4096) (hv : vis l) (w : World) : Calls Tryz.prog 17 #[.string (S l)] w fun e w' => e = .returned (.bool true) ∧ w' = w := by
  have hsz : (S l).size = l.length := S_size _
  have HV := Lib.hid hv
  clear hv
  go_enter Tryz.func17, Tryz.ntmps17
  go_wp2_with fail
  go_loopw [3] (fun i wr => ∃ j : Nat, j ≤ l.length ∧ i = .int .i64 (j : Int) ∧ wr = w) (fun i _ => l.length - (intOf i).toNat)
  case atStart => exact ⟨0, Nat.zero_le _, rfl, rfl⟩
  case round =>
    obtain ⟨j, hj, rfl, rfl⟩ := hrel
    by_cases hlt : j < l.length
    · have hix := S_idx l j hlt
      have hvc := HV.out l[j] (List.getElem_mem hlt)
      obtain ⟨c, hc⟩ : ∃ c, l[j] = c := ⟨_, rfl⟩
      rw [hc] at hix hvc
      have h1 : ¬ (c.toNat : Int) < 32 := by have := UInt8.le_iff_toNat_le.1 hvc.1; have e : (32 : UInt8).toNat = 32 := rfl; omega
      have h2 : ¬ 126 < (c.toNat : Int) := by have := UInt8.le_iff_toNat_le.1 hvc.2; have e : (126 : UInt8).toNat = 126 := rfl; omega
      clear hc hvc
      go_wp2_with fail
      go_roundw
      case rel => exact ⟨j + 1, by omega, by go_num, trivial⟩
      case measure => simp [intOf]; omega
    · obtain rfl : j = l.length := by omega
      go_wp2_with fail
      go_ret
      exact ⟨rfl, rfl⟩

set_option maxRecDepth 100000 in
set_option maxHeartbeats 8000000 in
theorem same_true (c : Cmd) (A A' P P' : Option Addr) (a a' p p' : Nat) (w : World) (hr : BytesAt w w.heap.size A c.raw) (hr' : BytesAt w w.heap.size A' c.raw) (hp : IntsAt w w.heap.size P c.picks) (hp' : IntsAt w w.heap.size P' c.picks) (hl : c.raw.length ≤ 1048576) (hl' : c.picks.length ≤ 1048576) :
    Calls Tryz.prog 15 #[.agg (cmdC c (.slice A c.raw.length a) (.slice P c.picks.length p)), .agg (cmdC c (.slice A' c.raw.length a') (.slice P' c.picks.length p'))] w fun e w' => e = .returned (.bool true) ∧ Below w.heap.size w w' := by
  have hT1 := (Blk.new w 28 (cmdC c (.slice A c.raw.length a) (.slice P c.picks.length p))).alloc (.cells (cmdC c (.slice A' c.raw.length a') (.slice P' c.picks.length p')) 28)
  have hT2 := Blk.new (w.alloc (.cells (cmdC c (.slice A c.raw.length a) (.slice P c.picks.length p)) 28)) 28 (cmdC c (.slice A' c.raw.length a') (.slice P' c.picks.length p'))
  rw [World.size_alloc] at hT2
  have hb1 : Below w.heap.size w (w.alloc (.cells (cmdC c (.slice A c.raw.length a) (.slice P c.picks.length p)) 28)) := (Below.refl _ _).alloc (Nat.le_refl _) _
  have hb0 := hb1.alloc hb1.size (.cells (cmdC c (.slice A' c.raw.length a') (.slice P' c.picks.length p')) 28)
  have HR := Lib.hid (hr.up hb0)
  have HR' := Lib.hid (hr'.up hb0)
  have HP := Lib.hid (hp.up hb0)
  have HP' := Lib.hid (hp'.up hb0)
  clear hr hr' hp hp' hb1
  generalize hcs : cmdC c (.slice A c.raw.length a) (.slice P c.picks.length p) = cs at hT1 hT2 hb0 HR HR' HP HP' ⊢
  generalize hcs' : cmdC c (.slice A' c.raw.length a') (.slice P' c.picks.length p') = cs' at hT1 hT2 hb0 HR HR' HP HP' ⊢
  have HCS := Lib.hid hcs
  have HCS' := Lib.hid hcs'
  clear hcs hcs'
  go_enter Tryz.func15, Tryz.ntmps15
  go_upto_region 1 with fail
  generalize hw0 : (w.alloc _).alloc _ = w0 at hT1 hT2 hb0 HR HR' HP HP' ⊢
  have HB0 := Lib.hid hb0
  have HT1 : Hid (Blk w0 w.heap.size 28 (cmdC c (.slice A c.raw.length a) (.slice P c.picks.length p))) := Lib.hid (by rw [HCS.out]; exact hT1)
  have HT2 : Hid (Blk w0 (w.heap.size + 1) 28 (cmdC c (.slice A' c.raw.length a') (.slice P' c.picks.length p'))) := Lib.hid (by rw [HCS'.out]; exact hT2)
  clear hw0 hT1 hT2 hb0 HCS HCS'
  have q0 : w0.cell? ⟨w.heap.size, 0, none⟩ = some (.int .i64 c.verb) := HT1.out.cell 0
  have q1 : w0.cell? ⟨w.heap.size, 1, none⟩ = some (.int .i64 c.conn) := HT1.out.cell 1
  have q11 : w0.cell? ⟨w.heap.size, 11, none⟩ = some (.slice A c.raw.length a) := HT1.out.cell 11
  have q12 : w0.cell? ⟨w.heap.size, 12, none⟩ = some (.int .i64 c.n) := HT1.out.cell 12
  have q13 : w0.cell? ⟨w.heap.size, 13, none⟩ = some (.slice P c.picks.length p) := HT1.out.cell 13
  have t0 : w0.cell? ⟨w.heap.size + 1, 0, none⟩ = some (.int .i64 c.verb) := HT2.out.cell 0
  have t1 : w0.cell? ⟨w.heap.size + 1, 1, none⟩ = some (.int .i64 c.conn) := HT2.out.cell 1
  have t11 : w0.cell? ⟨w.heap.size + 1, 11, none⟩ = some (.slice A' c.raw.length a') := HT2.out.cell 11
  have t12 : w0.cell? ⟨w.heap.size + 1, 12, none⟩ = some (.int .i64 c.n) := HT2.out.cell 12
  have t13 : w0.cell? ⟨w.heap.size + 1, 13, none⟩ = some (.slice P' c.picks.length p') := HT2.out.cell 13
  have q2 : w0.cell? ⟨w.heap.size, 2, none⟩ = some (.int .u32 c.req.id) := HT1.out.cell 2
  have t2 : w0.cell? ⟨w.heap.size + 1, 2, none⟩ = some (.int .u32 c.req.id) := HT2.out.cell 2
  have q3 : w0.cell? ⟨w.heap.size, 3, none⟩ = some (.int .i64 c.req.op) := HT1.out.cell 3
  have t3 : w0.cell? ⟨w.heap.size + 1, 3, none⟩ = some (.int .i64 c.req.op) := HT2.out.cell 3
  have q4 : w0.cell? ⟨w.heap.size, 4, none⟩ = some (.string (S c.req.topic)) := HT1.out.cell 4
  have t4 : w0.cell? ⟨w.heap.size + 1, 4, none⟩ = some (.string (S c.req.topic)) := HT2.out.cell 4
  have q5 : w0.cell? ⟨w.heap.size, 5, none⟩ = some (.string (S c.req.key)) := HT1.out.cell 5
  have t5 : w0.cell? ⟨w.heap.size + 1, 5, none⟩ = some (.string (S c.req.key)) := HT2.out.cell 5
  have q6 : w0.cell? ⟨w.heap.size, 6, none⟩ = some (.string (S c.req.value)) := HT1.out.cell 6
  have t6 : w0.cell? ⟨w.heap.size + 1, 6, none⟩ = some (.string (S c.req.value)) := HT2.out.cell 6
  have q7 : w0.cell? ⟨w.heap.size, 7, none⟩ = some (.int .i64 c.req.off) := HT1.out.cell 7
  have t7 : w0.cell? ⟨w.heap.size + 1, 7, none⟩ = some (.int .i64 c.req.off) := HT2.out.cell 7
  have q8 : w0.cell? ⟨w.heap.size, 8, none⟩ = some (.int .i64 c.req.num) := HT1.out.cell 8
  have t8 : w0.cell? ⟨w.heap.size + 1, 8, none⟩ = some (.int .i64 c.req.num) := HT2.out.cell 8
  have q9 : w0.cell? ⟨w.heap.size, 9, none⟩ = some (.int .i64 c.req.pid) := HT1.out.cell 9
  have t9 : w0.cell? ⟨w.heap.size + 1, 9, none⟩ = some (.int .i64 c.req.pid) := HT2.out.cell 9
  have q10 : w0.cell? ⟨w.heap.size, 10, none⟩ = some (.int .i64 c.req.seq) := HT1.out.cell 10
  have t10 : w0.cell? ⟨w.heap.size + 1, 10, none⟩ = some (.int .i64 c.req.seq) := HT2.out.cell 10
  go_upto_region 3 with fail
  clear q0 t0 q1 t1 q2 t2 q3 t3 q4 t4 q5 t5 q6 t6 q7 t7 q8 t8 q9 t9 q10 t10 q11 t11 q12 t12 q13 t13
  go_wp2_with fail
  go_loopw [5] (fun i wr => ∃ j : Nat, j ≤ c.raw.length ∧ i = .int .i64 (j : Int) ∧ Hid (Below w0.heap.size w0 wr)) (fun i _ => c.raw.length - (intOf i).toNat)
  case atStart => exact ⟨0, Nat.zero_le _, rfl, Below.refl _ _⟩
  case round =>
    obtain ⟨j, hj, rfl, HBr⟩ := hrel
    have u0 : wr.cell? ⟨w.heap.size, 11, none⟩ = some (.slice A c.raw.length a) := (HT1.out.below HBr.out HT1.out.lt).cell 11
    have u1 : wr.cell? ⟨w.heap.size + 1, 11, none⟩ = some (.slice A' c.raw.length a') := (HT2.out.below HBr.out HT2.out.lt).cell 11
    by_cases hlt : j < c.raw.length
    · have hne : c.raw ≠ [] := by intro e; rw [e] at hlt; simp at hlt
      obtain ⟨b, off, rfl, hb, hcl⟩ := HR.out hne
      obtain ⟨b', off', rfl, hb', hcl'⟩ := HR'.out hne
      obtain ⟨x, hx⟩ : ∃ x, c.raw[j] = x := ⟨_, rfl⟩
      have hxj : c.raw[j]? = some x := by rw [← hx]; exact List.getElem?_eq_getElem hlt
      have k0 := cell_regrown u0
      have k1 := cell_regrown u1
      have k2 := cell_regrown ((HBr.out.cell (p := ⟨b, off + j, none⟩) hb).trans (hcl j x hxj))
      have k3 := cell_regrown ((HBr.out.cell (p := ⟨b', off' + j, none⟩) hb').trans (hcl' j x hxj))
      clear hcl hcl' hb hb' hx hxj hne
      go_upto_region 6 with fail
      refine wp_region_quiet_below (by kernel_rfl) (by kernel_rfl) ?_
      repeat (first | go_big_quiet_skip | (go_big_quiet_want; go_big_quiet_op; go_big_quiet_on))
      refine wpQuiet_nil ?_
      intro _ hw'
      obtain ⟨⟨dq, osq⟩, hw''⟩ := hw'
      subst hw''
      have HB4 : Hid (Below w0.heap.size w0 (Sort.grow (redrawn wr dq) osq)) := HBr.out.trans ((below_regrown wr dq osq).mono HBr.out.size)
      clear k0 k1 k2 k3 u0 u1
      go_wp2_with fail
      go_roundw
      case rel => exact ⟨j + 1, by omega, by go_num, HB4⟩
      case measure => simp [intOf]; omega
    · obtain rfl : j = c.raw.length := by omega
      clear u1
      go_wp2_with fail
      go_loopw [6] (fun i wr => ∃ j : Nat, j ≤ c.picks.length ∧ i = .int .i64 (j : Int) ∧ Hid (Below w0.heap.size w0 wr)) (fun i _ => c.picks.length - (intOf i).toNat)
      case atStart => exact ⟨0, Nat.zero_le _, rfl, HBr⟩
      case round =>
        obtain ⟨j, hj, rfl, HBr⟩ := hrel
        have u0 : wr.cell? ⟨w.heap.size, 13, none⟩ = some (.slice P c.picks.length p) := (HT1.out.below HBr.out HT1.out.lt).cell 13
        have u1 : wr.cell? ⟨w.heap.size + 1, 13, none⟩ = some (.slice P' c.picks.length p') := (HT2.out.below HBr.out HT2.out.lt).cell 13
        by_cases hlt : j < c.picks.length
        · have hne : c.picks ≠ [] := by intro e; rw [e] at hlt; simp at hlt
          obtain ⟨b, off, rfl, hb, hcl⟩ := HP.out hne
          obtain ⟨b', off', rfl, hb', hcl'⟩ := HP'.out hne
          obtain ⟨x, hx⟩ : ∃ x, c.picks[j] = x := ⟨_, rfl⟩
          have hxj : c.picks[j]? = some x := by rw [← hx]; exact List.getElem?_eq_getElem hlt
          have k0 := cell_regrown u0
          have k1 := cell_regrown u1
          have k2 := cell_regrown ((HBr.out.cell (p := ⟨b, off + j, none⟩) hb).trans (hcl j x hxj))
          have k3 := cell_regrown ((HBr.out.cell (p := ⟨b', off' + j, none⟩) hb').trans (hcl' j x hxj))
          clear hcl hcl' hb hb' hx hxj hne
          go_upto_region 11 with fail
          refine wp_region_quiet_below (by kernel_rfl) (by kernel_rfl) ?_
          repeat (first | go_big_quiet_skip | (go_big_quiet_want; go_big_quiet_op; go_big_quiet_on))
          refine wpQuiet_nil ?_
          intro _ hw'
          obtain ⟨⟨dq, osq⟩, hw''⟩ := hw'
          subst hw''
          have HB4 : Hid (Below w0.heap.size w0 (Sort.grow (redrawn wr dq) osq)) := HBr.out.trans ((below_regrown wr dq osq).mono HBr.out.size)
          clear k0 k1 k2 k3 u0 u1
          go_wp2_with fail
          go_roundw
          case rel => exact ⟨j + 1, by omega, by go_num, HB4⟩
          case measure => simp [intOf]; omega
        · obtain rfl : j = c.picks.length := by omega
          clear u1
          have HBF : Hid (Below w.heap.size w wr) := HB0.out.trans (HBr.out.mono HB0.out.size)
          go_wp2_with fail
          go_ret
          exact ⟨rfl, HBF.out⟩
end Go.Proofs.YtepalbldleegiaaGreatDoor.sh
