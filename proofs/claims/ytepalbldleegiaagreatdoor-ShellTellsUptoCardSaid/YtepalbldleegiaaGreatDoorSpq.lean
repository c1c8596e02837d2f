/-
  The law ShellRound walked.
  Conditions: those of the row: numbers as their types have them, lengths of at most a megabyte; the tables are as they were laid.
-/
import Derived.Test.YtepalbldleegiaaGreatDoorSpp
namespace Go.Proofs.YtepalbldleegiaaGreatDoor.sh
open Go.RowKit
open Go.Lib (itoa decDigits byteCells atoiAll)

theorem ints_cmdI {c : Cmd} (h : cmdI c) : ints c := by
  obtain ⟨-, hc, hn, -, ⟨h1, h2, h3, h4⟩, hid, hp, -⟩ := h
  refine ⟨⟨hid.1, by omega⟩, fun x hx => ?_⟩
  simp only [List.cons_append, List.nil_append, List.mem_cons] at hx
  rcases hx with rfl | rfl | rfl | rfl | rfl | rfl | hx
  · exact hn
  · exact hc
  · exact h1
  · exact h2
  · exact h3
  · exact h4
  · exact hp x hx
theorem parse_cmdI {l : Bs} {d : Cmd} (h : parseL l = some d) : cmdI d := by
  have hs := parseL_some h
  unfold parseL at h
  split at h
  · cases h
  · rename_i hl
    rw [Option.bind_eq_some_iff] at h
    obtain ⟨c, hc, h⟩ := h
    split at h
    · injection h with h
      subst h
      have hlen := cutL_lens l [] false false
      refine cmdI_of hs.2.1 (command_lens (fun p hp => ?_) (by omega) hc)
      have := hlen.2 p hp
      simp only [List.length_nil] at this
      omega
    · cases h

set_option maxRecDepth 100000 in
set_option maxHeartbeats 8000000 in
theorem round_any (c : Cmd) (A : Option Addr) (a : Nat) (P : Option Addr) (p : Nat) (l : Bs) (hl : l.length ≤ 1048576) (w : World) (ht : Tab w) (hu : Use w) (he : Errs w) (hI : cmdI c) (hr : BytesAt w w.heap.size A c.raw) (hp : IntsAt w w.heap.size P c.picks) :
    Calls Tryz.prog 5 #[.agg (cmdC c (.slice A c.raw.length a) (.slice P c.picks.length p)), .string (S l)] w fun e w' => e = .returned (.bool true) ∧ Below w.heap.size w w' := by
  have hT0 := Blk.new w 28 (cmdC c (.slice A c.raw.length a) (.slice P c.picks.length p))
  have hB0 : Below w.heap.size w (w.alloc (.cells (cmdC c (.slice A c.raw.length a) (.slice P c.picks.length p)) 28)) := (Below.refl _ _).alloc (Nat.le_refl _) _
  have HI := Lib.hid hI
  have HR := Lib.hid (hr.up hB0)
  have HP := Lib.hid (hp.up hB0)
  have HT0 := Lib.hid hT0
  have HB0 := Lib.hid hB0
  clear hI hr hp hT0 hB0
  generalize hcs : cmdC c (.slice A c.raw.length a) (.slice P c.picks.length p) = cs at HR HP HT0 HB0 ⊢
  have HCS := Lib.hid hcs
  clear hcs
  go_enter Tryz.func5, Tryz.ntmps5
  go_upto_region 1 with fail
  generalize hw0 : w.alloc _ = w0 at HR HP HT0 HB0 ⊢
  clear hw0
  have hT0 := HT0.out
  rw [← HCS.out] at hT0
  replace HT0 : Hid (Blk w0 w.heap.size 28 (cmdC c (.slice A c.raw.length a) (.slice P c.picks.length p))) := hT0
  clear hT0 HCS
  have hszl : (S l).size = l.length := S_size _
  have hwk := works_any w0 (tab_below ht HB0.out) (use_below hu HB0.out) (he.below HB0.out)
  go_wp2_with fail
  refine hwk.mono ?_
  clear hwk
  rintro e w1 ⟨rfl, hb1⟩
  have HB1 := Lib.hid hb1
  have HT1 : Hid (Blk w1 w.heap.size 28 _) := HT0.out.below hb1 HT0.out.lt
  have HBW1 : Hid (Below w.heap.size w w1) := HB0.out.trans (hb1.mono HB0.out.size)
  have hpr := print_any c A a P p w1 (tab_below ht HBW1.out) (use_below hu HBW1.out) HI.out (HR.out.up hb1) (HP.out.up hb1)
  rw [cmdC_L] at hpr
  have HPR := Lib.hid hpr
  clear hb1 hpr
  go_wp2_with (first
    | ((with_reducible refine at_op ⟨_, .load 28 (.tmp 2), _, _, _, _⟩ ?_); refine wpList_load_list rfl 28 (.tmp 2) rfl ⟨w.heap.size, 0, none⟩ rfl (cmdL c (.slice A c.raw.length a) (.slice P c.picks.length p)) (cmd_load HT1.out) _ Tryz.underlying28 rfl (by kernel_rfl) ?_)
    | fail)
  refine HPR.out.mono ?_
  clear HPR
  rcases hpc : printL c with _ | s
  · rintro e w2 ⟨rfl, hb2⟩
    have HB2 : Hid (Below w0.heap.size w0 w2) := HB1.out.trans (hb2.mono HB1.out.size)
    clear hb2 hpc
    unfold prV
    have HBW6 : Hid (Below w.heap.size w w2) := HB0.out.trans (HB2.out.mono HB0.out.size)
    have hpa2 := parse_any l hl w2 (tab_below ht HBW6.out) (use_below hu HBW6.out) (he.below HBW6.out)
    go_wp2_with fail
    refine hpa2.mono ?_
    clear hpa2
    rcases hpl : parseL l with _ | d
    · rintro e w7 ⟨rfl, hb7⟩
      have HB7 : Hid (Below w.heap.size w w7) := HBW6.out.trans (hb7.mono HBW6.out.size)
      clear hb7 hpl
      unfold nilS
      rw [cmdC_L]
      go_upto_region 11 with (first
        | ((with_reducible refine at_op ⟨_, .store 28 (.tmp 9) (.tmp 58), _, _, _, _⟩ ?_); refine wpList_store_blk rfl 28 (.tmp 9) (.tmp 58) rfl w7.heap.size 0 rfl (cmdL cmd0 (.slice none 0 0) (.slice none 0 0)) rfl (cmdL_one _ _ _ _ _ _ _) 28 zC (Blk.new w7 28 zC) (show 0 + 14 ≤ 14 from Nat.le_refl 14) (by kernel_rfl) ?_; intro w8 hT hg hs; rw [put_cmd _ rfl] at hT; have HTw8 := Lib.hid hT; have HBw8 : Hid (Below w7.heap.size w7 w8) := below_gb ((Below.refl _ _).alloc (Nat.le_refl _) _) hg (le_alloc _ (Nat.le_refl _)) (Nat.le_refl _); clear hT hg hs)
        | fail)
      have HB8 : Hid (Below w.heap.size w w8) := HB7.out.trans (HBw8.out.mono HB7.out.size)
      have u0 : w8.cell? ⟨w7.heap.size, 0, none⟩ = some (.int .i64 0) := HTw8.out.cell 0
      have u1 : w8.cell? ⟨w7.heap.size, 1, none⟩ = some (.int .i64 0) := HTw8.out.cell 1
      have u2 : w8.cell? ⟨w7.heap.size, 2, none⟩ = some (.int .u32 0) := HTw8.out.cell 2
      have u3 : w8.cell? ⟨w7.heap.size, 3, none⟩ = some (.int .i64 0) := HTw8.out.cell 3
      have u4 : w8.cell? ⟨w7.heap.size, 4, none⟩ = some (.string ⟨#[]⟩) := HTw8.out.cell 4
      have u5 : w8.cell? ⟨w7.heap.size, 5, none⟩ = some (.string ⟨#[]⟩) := HTw8.out.cell 5
      have u6 : w8.cell? ⟨w7.heap.size, 6, none⟩ = some (.string ⟨#[]⟩) := HTw8.out.cell 6
      have u7 : w8.cell? ⟨w7.heap.size, 7, none⟩ = some (.int .i64 0) := HTw8.out.cell 7
      have u8 : w8.cell? ⟨w7.heap.size, 8, none⟩ = some (.int .i64 0) := HTw8.out.cell 8
      have u9 : w8.cell? ⟨w7.heap.size, 9, none⟩ = some (.int .i64 0) := HTw8.out.cell 9
      have u10 : w8.cell? ⟨w7.heap.size, 10, none⟩ = some (.int .i64 0) := HTw8.out.cell 10
      have u11 : w8.cell? ⟨w7.heap.size, 11, none⟩ = some (.slice none 0 0) := HTw8.out.cell 11
      have u12 : w8.cell? ⟨w7.heap.size, 12, none⟩ = some (.int .i64 0) := HTw8.out.cell 12
      have u13 : w8.cell? ⟨w7.heap.size, 13, none⟩ = some (.slice none 0 0) := HTw8.out.cell 13
      go_wp2_with fail
      refine (same_true cmd0 none none none none 0 0 0 0 w8 bytes_nil bytes_nil ints_nil ints_nil (by decide) (by decide)).mono ?_
      rintro e w9 ⟨rfl, hb9⟩
      have HB9 : Hid (Below w.heap.size w w9) := HB8.out.trans (hb9.mono HB8.out.size)
      clear hb9
      go_wp2_with fail
      go_ret
      exact ⟨rfl, HB9.out⟩
    · rintro e w7 ⟨sR, sP, rfl, hb7, hoR, hoP⟩
      obtain ⟨X2, cX2, rfl⟩ := own_sl hoR
      obtain ⟨Y2, cY2, rfl⟩ := own_sl hoP
      have HB7 : Hid (Below w.heap.size w w7) := HBW6.out.trans (hb7.mono HBW6.out.size)
      have HOR2 := Lib.hid (bytes_of_own hoR)
      have HOP2 := Lib.hid (ints_of_own hoP)
      have HPL := Lib.hid (parseL_some hpl).1
      have HID : Hid (cmdI d) := Lib.hid (parse_cmdI hpl)
      clear hb7 hpl hoR hoP
      rw [cmdC_L]
      go_upto_region 11 with (first
        | ((with_reducible refine at_op ⟨_, .store 28 (.tmp 9) (.tmp 58), _, _, _, _⟩ ?_); refine wpList_store_blk rfl 28 (.tmp 9) (.tmp 58) rfl w7.heap.size 0 rfl (cmdL d (.slice X2 d.raw.length cX2) (.slice Y2 d.picks.length cY2)) rfl (cmdL_one _ _ _ _ _ _ _) 28 zC (Blk.new w7 28 zC) (show 0 + 14 ≤ 14 from Nat.le_refl 14) (by kernel_rfl) ?_; intro w8 hT hg hs; rw [put_cmd _ rfl] at hT; have HTw8 := Lib.hid hT; have HBw8 : Hid (Below w7.heap.size w7 w8) := below_gb ((Below.refl _ _).alloc (Nat.le_refl _) _) hg (le_alloc _ (Nat.le_refl _)) (Nat.le_refl _); clear hT hg hs)
        | fail)
      have HB8 : Hid (Below w.heap.size w w8) := HB7.out.trans (HBw8.out.mono HB7.out.size)
      go_wp2_with (first
        | ((with_reducible refine at_op ⟨_, .load 28 (.tmp 9), _, _, _, _⟩ ?_); refine wpList_load_list rfl 28 (.tmp 9) rfl ⟨w7.heap.size, 0, none⟩ rfl (cmdL d (.slice X2 d.raw.length cX2) (.slice Y2 d.picks.length cY2)) (cmd_load HTw8.out) _ Tryz.underlying28 rfl (by kernel_rfl) ?_)
        | fail)
      have hpr2 := print_any d X2 cX2 Y2 cY2 w8 (tab_below ht HB8.out) (use_below hu HB8.out) HID.out (HOR2.out.up HBw8.out) (HOP2.out.up HBw8.out)
      rw [cmdC_L, HPL.out] at hpr2
      refine hpr2.mono ?_
      clear hpr2
      rintro e w9 ⟨rfl, hb9⟩
      have HB9 : Hid (Below w.heap.size w w9) := HB8.out.trans (hb9.mono HB8.out.size)
      clear hb9
      unfold prV
      go_wp2_with fail
      go_ret
      exact ⟨rfl, HB9.out⟩
  · rintro e w2 ⟨rfl, hb2⟩
    have HB2 : Hid (Below w0.heap.size w0 w2) := HB1.out.trans (hb2.mono HB1.out.size)
    have HBW2 : Hid (Below w.heap.size w w2) := HB0.out.trans (HB2.out.mono HB0.out.size)
    obtain ⟨-, -, hs4, hvs, hsne⟩ := print_some hpc
    have hsz : (S s).size = s.length := S_size _
    have hpp := parse_print c s (ints_cmdI HI.out) hpc
    have hpa := parse_any s (by omega) w2 (tab_below ht HBW2.out) (use_below hu HBW2.out) (he.below HBW2.out)
    rw [hpp] at hpa
    have HPA := Lib.hid hpa
    have HVS := Lib.hid hvs
    have hse : (S s).toList.isEmpty = false := by rw [S_list]; simp [hsne]
    clear hb2 hpc hpp hpa hvs hsne
    unfold prV
    go_wp2_with fail
    refine HPA.out.mono ?_
    clear HPA
    rintro e w3 ⟨sR, sP, rfl, hb3, hoR, hoP⟩
    obtain ⟨X, cX, rfl⟩ := own_sl hoR
    obtain ⟨Y, cY, rfl⟩ := own_sl hoP
    have HB3 : Hid (Below w0.heap.size w0 w3) := HB2.out.trans (hb3.mono HB2.out.size)
    have HOR := Lib.hid (bytes_of_own hoR)
    have HOP := Lib.hid (ints_of_own hoP)
    clear hb3 hoR hoP
    rw [cmdC_L]
    go_upto_region 6 with (first
      | ((with_reducible refine at_op ⟨_, .store 28 (.tmp 7) (.tmp 25), _, _, _, _⟩ ?_); refine wpList_store_blk rfl 28 (.tmp 7) (.tmp 25) rfl w3.heap.size 0 rfl (cmdL c (.slice X c.raw.length cX) (.slice Y c.picks.length cY)) rfl (cmdL_one _ _ _ _ _ _ _) 28 zC (Blk.new w3 28 zC) (show 0 + 14 ≤ 14 from Nat.le_refl 14) (by kernel_rfl) ?_; intro w4 hT hg hs; rw [put_cmd _ rfl] at hT; have HTw4 := Lib.hid hT; have HBw4 : Hid (Below w3.heap.size w3 w4) := below_gb ((Below.refl _ _).alloc (Nat.le_refl _) _) hg (le_alloc _ (Nat.le_refl _)) (Nat.le_refl _); clear hT hg hs)
      | fail)
    have HB4 : Hid (Below w0.heap.size w0 w4) := HB3.out.trans (HBw4.out.mono HB3.out.size)
    have HT4 : Hid (Blk w4 w.heap.size 28 (cmdC c (.slice A c.raw.length a) (.slice P c.picks.length p))) := HT0.out.below HB4.out HT0.out.lt
    have q0 : w4.cell? ⟨w.heap.size, 0, none⟩ = some (.int .i64 c.verb) := HT4.out.cell 0
    have q1 : w4.cell? ⟨w.heap.size, 1, none⟩ = some (.int .i64 c.conn) := HT4.out.cell 1
    have q2 : w4.cell? ⟨w.heap.size, 2, none⟩ = some (.int .u32 c.req.id) := HT4.out.cell 2
    have q3 : w4.cell? ⟨w.heap.size, 3, none⟩ = some (.int .i64 c.req.op) := HT4.out.cell 3
    have q4 : w4.cell? ⟨w.heap.size, 4, none⟩ = some (.string (S c.req.topic)) := HT4.out.cell 4
    have q5 : w4.cell? ⟨w.heap.size, 5, none⟩ = some (.string (S c.req.key)) := HT4.out.cell 5
    have q6 : w4.cell? ⟨w.heap.size, 6, none⟩ = some (.string (S c.req.value)) := HT4.out.cell 6
    have q7 : w4.cell? ⟨w.heap.size, 7, none⟩ = some (.int .i64 c.req.off) := HT4.out.cell 7
    have q8 : w4.cell? ⟨w.heap.size, 8, none⟩ = some (.int .i64 c.req.num) := HT4.out.cell 8
    have q9 : w4.cell? ⟨w.heap.size, 9, none⟩ = some (.int .i64 c.req.pid) := HT4.out.cell 9
    have q10 : w4.cell? ⟨w.heap.size, 10, none⟩ = some (.int .i64 c.req.seq) := HT4.out.cell 10
    have q11 : w4.cell? ⟨w.heap.size, 11, none⟩ = some (.slice A c.raw.length a) := HT4.out.cell 11
    have q12 : w4.cell? ⟨w.heap.size, 12, none⟩ = some (.int .i64 c.n) := HT4.out.cell 12
    have q13 : w4.cell? ⟨w.heap.size, 13, none⟩ = some (.slice P c.picks.length p) := HT4.out.cell 13
    have u0 : w4.cell? ⟨w3.heap.size, 0, none⟩ = some (.int .i64 c.verb) := HTw4.out.cell 0
    have u1 : w4.cell? ⟨w3.heap.size, 1, none⟩ = some (.int .i64 c.conn) := HTw4.out.cell 1
    have u2 : w4.cell? ⟨w3.heap.size, 2, none⟩ = some (.int .u32 c.req.id) := HTw4.out.cell 2
    have u3 : w4.cell? ⟨w3.heap.size, 3, none⟩ = some (.int .i64 c.req.op) := HTw4.out.cell 3
    have u4 : w4.cell? ⟨w3.heap.size, 4, none⟩ = some (.string (S c.req.topic)) := HTw4.out.cell 4
    have u5 : w4.cell? ⟨w3.heap.size, 5, none⟩ = some (.string (S c.req.key)) := HTw4.out.cell 5
    have u6 : w4.cell? ⟨w3.heap.size, 6, none⟩ = some (.string (S c.req.value)) := HTw4.out.cell 6
    have u7 : w4.cell? ⟨w3.heap.size, 7, none⟩ = some (.int .i64 c.req.off) := HTw4.out.cell 7
    have u8 : w4.cell? ⟨w3.heap.size, 8, none⟩ = some (.int .i64 c.req.num) := HTw4.out.cell 8
    have u9 : w4.cell? ⟨w3.heap.size, 9, none⟩ = some (.int .i64 c.req.pid) := HTw4.out.cell 9
    have u10 : w4.cell? ⟨w3.heap.size, 10, none⟩ = some (.int .i64 c.req.seq) := HTw4.out.cell 10
    have u11 : w4.cell? ⟨w3.heap.size, 11, none⟩ = some (.slice X c.raw.length cX) := HTw4.out.cell 11
    have u12 : w4.cell? ⟨w3.heap.size, 12, none⟩ = some (.int .i64 c.n) := HTw4.out.cell 12
    have u13 : w4.cell? ⟨w3.heap.size, 13, none⟩ = some (.slice Y c.picks.length cY) := HTw4.out.cell 13
    have HIl := HI.out.2.2.2.2.2.2.2.2.2.2
    go_wp2_with fail
    refine (same_true c X A Y P cX a cY p w4 (HOR.out.up HBw4.out) (HR.out.up HB4.out) (HOP.out.up HBw4.out) (HP.out.up HB4.out) HIl.1 HIl.2).mono ?_
    rintro e w5 ⟨rfl, hb5⟩
    have HB5 : Hid (Below w0.heap.size w0 w5) := HB4.out.trans (hb5.mono HB4.out.size)
    clear hb5 HIl q0 u0 q1 u1 q2 u2 q3 u3 q4 u4 q5 u5 q6 u6 q7 u7 q8 u8 q9 u9 q10 u10 q11 u11 q12 u12 q13 u13
    go_wp2_with fail
    refine (visible_any s hs4 HVS.out w5).mono ?_
    rintro e w6 ⟨rfl, rfl⟩
    have HBW6 : Hid (Below w.heap.size w w6) := HB0.out.trans (HB5.out.mono HB0.out.size)
    have hpa2 := parse_any l hl w6 (tab_below ht HBW6.out) (use_below hu HBW6.out) (he.below HBW6.out)
    go_wp2_with fail
    refine hpa2.mono ?_
    clear hpa2
    rcases hpl : parseL l with _ | d
    · rintro e w7 ⟨rfl, hb7⟩
      have HB7 : Hid (Below w.heap.size w w7) := HBW6.out.trans (hb7.mono HBW6.out.size)
      clear hb7 hpl
      unfold nilS
      rw [cmdC_L]
      go_upto_region 11 with (first
        | ((with_reducible refine at_op ⟨_, .store 28 (.tmp 9) (.tmp 58), _, _, _, _⟩ ?_); refine wpList_store_blk rfl 28 (.tmp 9) (.tmp 58) rfl w7.heap.size 0 rfl (cmdL cmd0 (.slice none 0 0) (.slice none 0 0)) rfl (cmdL_one _ _ _ _ _ _ _) 28 zC (Blk.new w7 28 zC) (show 0 + 14 ≤ 14 from Nat.le_refl 14) (by kernel_rfl) ?_; intro w8 hT hg hs; rw [put_cmd _ rfl] at hT; have HTw8 := Lib.hid hT; have HBw8 : Hid (Below w7.heap.size w7 w8) := below_gb ((Below.refl _ _).alloc (Nat.le_refl _) _) hg (le_alloc _ (Nat.le_refl _)) (Nat.le_refl _); clear hT hg hs)
        | fail)
      have HB8 : Hid (Below w.heap.size w w8) := HB7.out.trans (HBw8.out.mono HB7.out.size)
      have u0 : w8.cell? ⟨w7.heap.size, 0, none⟩ = some (.int .i64 0) := HTw8.out.cell 0
      have u1 : w8.cell? ⟨w7.heap.size, 1, none⟩ = some (.int .i64 0) := HTw8.out.cell 1
      have u2 : w8.cell? ⟨w7.heap.size, 2, none⟩ = some (.int .u32 0) := HTw8.out.cell 2
      have u3 : w8.cell? ⟨w7.heap.size, 3, none⟩ = some (.int .i64 0) := HTw8.out.cell 3
      have u4 : w8.cell? ⟨w7.heap.size, 4, none⟩ = some (.string ⟨#[]⟩) := HTw8.out.cell 4
      have u5 : w8.cell? ⟨w7.heap.size, 5, none⟩ = some (.string ⟨#[]⟩) := HTw8.out.cell 5
      have u6 : w8.cell? ⟨w7.heap.size, 6, none⟩ = some (.string ⟨#[]⟩) := HTw8.out.cell 6
      have u7 : w8.cell? ⟨w7.heap.size, 7, none⟩ = some (.int .i64 0) := HTw8.out.cell 7
      have u8 : w8.cell? ⟨w7.heap.size, 8, none⟩ = some (.int .i64 0) := HTw8.out.cell 8
      have u9 : w8.cell? ⟨w7.heap.size, 9, none⟩ = some (.int .i64 0) := HTw8.out.cell 9
      have u10 : w8.cell? ⟨w7.heap.size, 10, none⟩ = some (.int .i64 0) := HTw8.out.cell 10
      have u11 : w8.cell? ⟨w7.heap.size, 11, none⟩ = some (.slice none 0 0) := HTw8.out.cell 11
      have u12 : w8.cell? ⟨w7.heap.size, 12, none⟩ = some (.int .i64 0) := HTw8.out.cell 12
      have u13 : w8.cell? ⟨w7.heap.size, 13, none⟩ = some (.slice none 0 0) := HTw8.out.cell 13
      go_wp2_with fail
      refine (same_true cmd0 none none none none 0 0 0 0 w8 bytes_nil bytes_nil ints_nil ints_nil (by decide) (by decide)).mono ?_
      rintro e w9 ⟨rfl, hb9⟩
      have HB9 : Hid (Below w.heap.size w w9) := HB8.out.trans (hb9.mono HB8.out.size)
      clear hb9
      go_wp2_with fail
      go_ret
      exact ⟨rfl, HB9.out⟩
    · rintro e w7 ⟨sR, sP, rfl, hb7, hoR, hoP⟩
      obtain ⟨X2, cX2, rfl⟩ := own_sl hoR
      obtain ⟨Y2, cY2, rfl⟩ := own_sl hoP
      have HB7 : Hid (Below w.heap.size w w7) := HBW6.out.trans (hb7.mono HBW6.out.size)
      have HOR2 := Lib.hid (bytes_of_own hoR)
      have HOP2 := Lib.hid (ints_of_own hoP)
      have HPL := Lib.hid (parseL_some hpl).1
      have HID : Hid (cmdI d) := Lib.hid (parse_cmdI hpl)
      clear hb7 hpl hoR hoP
      rw [cmdC_L]
      go_upto_region 11 with (first
        | ((with_reducible refine at_op ⟨_, .store 28 (.tmp 9) (.tmp 58), _, _, _, _⟩ ?_); refine wpList_store_blk rfl 28 (.tmp 9) (.tmp 58) rfl w7.heap.size 0 rfl (cmdL d (.slice X2 d.raw.length cX2) (.slice Y2 d.picks.length cY2)) rfl (cmdL_one _ _ _ _ _ _ _) 28 zC (Blk.new w7 28 zC) (show 0 + 14 ≤ 14 from Nat.le_refl 14) (by kernel_rfl) ?_; intro w8 hT hg hs; rw [put_cmd _ rfl] at hT; have HTw8 := Lib.hid hT; have HBw8 : Hid (Below w7.heap.size w7 w8) := below_gb ((Below.refl _ _).alloc (Nat.le_refl _) _) hg (le_alloc _ (Nat.le_refl _)) (Nat.le_refl _); clear hT hg hs)
        | fail)
      have HB8 : Hid (Below w.heap.size w w8) := HB7.out.trans (HBw8.out.mono HB7.out.size)
      go_wp2_with (first
        | ((with_reducible refine at_op ⟨_, .load 28 (.tmp 9), _, _, _, _⟩ ?_); refine wpList_load_list rfl 28 (.tmp 9) rfl ⟨w7.heap.size, 0, none⟩ rfl (cmdL d (.slice X2 d.raw.length cX2) (.slice Y2 d.picks.length cY2)) (cmd_load HTw8.out) _ Tryz.underlying28 rfl (by kernel_rfl) ?_)
        | fail)
      have hpr2 := print_any d X2 cX2 Y2 cY2 w8 (tab_below ht HB8.out) (use_below hu HB8.out) HID.out (HOR2.out.up HBw8.out) (HOP2.out.up HBw8.out)
      rw [cmdC_L, HPL.out] at hpr2
      refine hpr2.mono ?_
      clear hpr2
      rintro e w9 ⟨rfl, hb9⟩
      have HB9 : Hid (Below w.heap.size w w9) := HB8.out.trans (hb9.mono HB8.out.size)
      clear hb9
      unfold prV
      go_wp2_with fail
      go_ret
      exact ⟨rfl, HB9.out⟩
end Go.Proofs.YtepalbldleegiaaGreatDoor.sh
