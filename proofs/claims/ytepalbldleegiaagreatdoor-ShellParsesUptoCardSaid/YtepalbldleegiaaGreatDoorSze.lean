/-
  The program's look at a command's bounds: walked.
  Conditions: numbers as their types have them; the table of uses is as it was laid; the verb is one of the eleven.
-/
import Derived.Test.YtepalbldleegiaaGreatDoorSzd
namespace Go.Proofs.YtepalbldleegiaaGreatDoor.sh
open Go.RowKit
open Go.Lib (itoa decDigits byteCells)

theorem at_seq {P : Program} {c1 c2 : Code} {a : Act} {w : World} {Q : Exit → Act → World → Prop} (h : (Code.seq c1 c2).wp P Q a w) : (Code.seq c1 c2).wp P Q a w := h
def cmdI (c : Cmd) : Prop := I64 c.verb ∧ I64 c.conn ∧ I64 c.n ∧ I64 c.req.op ∧ (I64 c.req.off ∧ I64 c.req.num ∧ I64 c.req.pid ∧ I64 c.req.seq) ∧ (0 ≤ c.req.id ∧ c.req.id < 4294967296) ∧ (∀ x ∈ c.picks, I64 x) ∧ c.req.topic.length ≤ 1048576 ∧ c.req.key.length ≤ 1048576 ∧ c.req.value.length ≤ 1048576 ∧ c.raw.length ≤ 1048576 ∧ c.picks.length ≤ 1048576
def boundB (c : Cmd) : Bool := decide (loN c.verb ≤ c.n) && decide (c.n ≤ hiN c.verb) && decide (0 ≤ c.conn) && decide (c.conn ≤ 999) && (labels c.verb || decide (c.conn = 0))
theorem within_eq (c : Cmd) : within c = (boundB c && (if c.verb = 2 then okReq c.req && decide (c.raw = []) && decide (c.picks = []) else decide (c.req = req0) && (decide (c.verb = 3) || decide (c.raw = [])) && (decide (c.verb = 5) || decide (c.verb = 8) || decide (c.picks = [])))) := rfl

set_option maxRecDepth 100000 in
set_option maxHeartbeats 8000000 in
theorem within_any (c : Cmd) (A : Option Addr) (a : Nat) (P : Option Addr) (p : Nat) (w : World) (hu : Use w) (hI : cmdI c) (hv : 0 ≤ c.verb ∧ c.verb ≤ 10) :
    Calls Tryz.prog 22 #[.agg (cmdC c (.slice A c.raw.length a) (.slice P c.picks.length p))] w fun e w' => e = .returned (.bool (within c)) ∧ Below w.heap.size w w' := by
  have hT0 := Blk.new w 28 (cmdC c (.slice A c.raw.length a) (.slice P c.picks.length p))
  have hB0 : Below w.heap.size w (w.alloc (.cells (cmdC c (.slice A c.raw.length a) (.slice P c.picks.length p)) 28)) := (Below.refl _ _).alloc (Nat.le_refl _) _
  generalize hcs : cmdC c (.slice A c.raw.length a) (.slice P c.picks.length p) = cs at hT0 hB0 ⊢
  have HCS := Lib.hid hcs
  have HI := Lib.hid hI
  obtain ⟨wi, hwi⟩ : ∃ b, within c = b := ⟨_, rfl⟩
  rw [hwi]
  have HWI := Lib.hid hwi
  clear hcs hI hwi
  go_enter Tryz.func22, Tryz.ntmps22
  go_upto_region 1 with fail
  generalize hw0 : w.alloc _ = w0 at hT0 hB0 ⊢
  have HT0 := Lib.hid hT0
  have HB0 := Lib.hid hB0
  have HU : Hid (Use w0) := use_below hu hB0
  have hcell : ∀ (i : Nat) (v : Value), (cmdL c (.slice A c.raw.length a) (.slice P c.picks.length p))[i]? = some v → w0.cell? ⟨w.heap.size, i, none⟩ = some v := fun i v h => by
    have := cmd_load (by rw [HCS.out]; exact HT0.out) i v h
    rwa [add_flat, Nat.zero_add] at this
  have q0 : w0.cell? ⟨w.heap.size, 0, none⟩ = some (.int .i64 c.verb) := hcell 0 _ rfl
  have q1 : w0.cell? ⟨w.heap.size, 1, none⟩ = some (.int .i64 c.conn) := hcell 1 _ rfl
  have q11 : w0.cell? ⟨w.heap.size, 11, none⟩ = some (.slice A c.raw.length a) := hcell 11 _ rfl
  have q12 : w0.cell? ⟨w.heap.size, 12, none⟩ = some (.int .i64 c.n) := hcell 12 _ rfl
  have q13 : w0.cell? ⟨w.heap.size, 13, none⟩ = some (.slice P c.picks.length p) := hcell 13 _ rfl
  clear hT0 hB0 hw0 hu hcell
  go_upto_region 2 with fail
  repeat ((fail_if_success (with_reducible refine at_seq ?_)); first | go_step | go_upon)
  go_step
  go_cut [3, 4, 5, 6, 7, 8] (fun s3 s4 s5 s6 s7 s8 wx => s3 = .int .i64 (loN c.verb) ∧ s4 = .int .i64 (hiN c.verb) ∧ s5 = .bool (labels c.verb) ∧ s6 = .bool (decide (c.verb = 2)) ∧ s7 = .bool (decide (c.verb = 3)) ∧ s8 = .bool (decide (c.verb = 5) || decide (c.verb = 8)) ∧ w0 = wx)
  case first =>
    have hvv := int_cases11 c.verb hv
    obtain ⟨vb, hvb⟩ : ∃ v, c.verb = v := ⟨_, rfl⟩
    rw [hvb] at q0 hvv
    have HVB := Lib.hid hvb
    clear hvb hv
    rcases hvv with rfl | rfl | rfl | rfl | rfl | rfl | rfl | rfl | rfl | rfl | rfl
    all_goals
      go_wp2_with fail
      go_meet
      rw [HVB.out]
      exact ⟨rfl, rfl, rfl, rfl, rfl, rfl, rfl⟩
  case rest =>
    obtain ⟨rfl, rfl, rfl, rfl, rfl, rfl, hwc⟩ := hcut
    subst hwc
    clear q0 hv
    obtain ⟨lo, hlo⟩ : ∃ x, loN c.verb = x := ⟨_, rfl⟩
    obtain ⟨hi, hhi⟩ : ∃ x, hiN c.verb = x := ⟨_, rfl⟩
    obtain ⟨lb, hlb⟩ : ∃ x, labels c.verb = x := ⟨_, rfl⟩
    obtain ⟨sy, hsy⟩ : ∃ x, decide (c.verb = 2) = x := ⟨_, rfl⟩
    obtain ⟨rw_, hrw⟩ : ∃ x, decide (c.verb = 3) = x := ⟨_, rfl⟩
    obtain ⟨pk, hpk⟩ : ∃ x, (decide (c.verb = 5) || decide (c.verb = 8)) = x := ⟨_, rfl⟩
    have HBB : Hid (boundB c = (decide (lo ≤ c.n) && decide (c.n ≤ hi) && decide (0 ≤ c.conn) && decide (c.conn ≤ 999) && (lb || decide (c.conn = 0)))) := Lib.hid (by unfold boundB; rw [hlo, hhi, hlb])
    rw [hlo, hhi, hlb, hsy, hrw, hpk]
    have HSY := Lib.hid hsy
    have HRW := Lib.hid hrw
    have HPK := Lib.hid hpk
    clear hlo hhi hlb hsy hrw hpk
    by_cases hB : lo ≤ c.n ∧ c.n ≤ hi ∧ 0 ≤ c.conn ∧ c.conn ≤ 999 ∧ (lb = true ∨ c.conn = 0)
    · obtain ⟨b1, b2, b3, b4, b5⟩ := hB
      have HBT : Hid (boundB c = true) := Lib.hid (by
        rw [HBB.out, decide_eq_true b1, decide_eq_true b2, decide_eq_true b3, decide_eq_true b4]
        rcases b5 with h | h
        · rw [h]; rfl
        · rw [decide_eq_true h]; simp)
      repeat ((fail_if_success (with_reducible refine at_seq ?_)); first | go_step | go_upon)
      go_step
      go_cut [2] (fun s2 wx => s2 = .bool false ∧ w0 = wx)
      case first =>
        rcases b5 with rfl | b5
        · go_wp2_with fail
          all_goals
            go_meet
            exact ⟨rfl, rfl⟩
        · cases lb with
          | true =>
            go_wp2_with fail
            go_meet
            exact ⟨rfl, rfl⟩
          | false =>
            go_wp2_with fail
            go_meet
            exact ⟨rfl, rfl⟩
      case rest =>
        obtain ⟨rfl, hwc⟩ := hcut
        subst hwc
        clear b1 b2 b3 b4 b5
        cases sy with
        | true =>
          have hv2 : c.verb = 2 := by simpa using HSY.out
          have HV2 := Lib.hid hv2
          clear hv2
          go_wp2_with (first
            | ((with_reducible refine at_op ⟨_, .load 24 (.tmp 57), _, _, _, _⟩ ?_); refine wpList_load_list rfl 24 (.tmp 57) rfl ⟨w.heap.size, 2, none⟩ rfl (reqC c.req) (req_load (by rw [HCS.out]; exact HT0.out)) _ Tryz.underlying24 rfl (by kernel_rfl) ?_)
            | fail)
          obtain ⟨-, -, -, -, hnn, -, -, ht, hk, hvl, -, -⟩ := HI.out
          refine (check_any c.req w0 HU.out hnn ht hk hvl).mono ?_
          rintro e w1 ⟨rfl, hb1⟩
          have HB1 : Hid (Below w.heap.size w w1) := HB0.out.trans (hb1.mono HB0.out.size)
          have q11 : w1.cell? ⟨w.heap.size, 11, none⟩ = some (.slice A c.raw.length a) := (hb1.cell (p := ⟨w.heap.size, 11, none⟩) HT0.out.lt).trans q11
          have q13 : w1.cell? ⟨w.heap.size, 13, none⟩ = some (.slice P c.picks.length p) := (hb1.cell (p := ⟨w.heap.size, 13, none⟩) HT0.out.lt).trans q13
          clear hb1 hnn ht hk hvl
          by_cases hok : okReq c.req = true
          · rw [okE_yes hok]
            by_cases hr : c.raw.length = 0
            · by_cases hp : c.picks.length = 0
              · have HF : Hid (true = wi) := Lib.hid (by
                  rw [← HWI.out, within_eq, HBT.out, if_pos HV2.out, hok, decide_eq_true (List.eq_nil_of_length_eq_zero hr), decide_eq_true (List.eq_nil_of_length_eq_zero hp)] <;> rfl)
                go_wp2_with fail
                go_ret
                exact ⟨ret_bool (by rw [← HF.out]), HB1.out⟩
              · have HF : Hid (false = wi) := Lib.hid (by
                  rw [← HWI.out, within_eq, HBT.out, if_pos HV2.out, decide_eq_false (fun e : c.picks = [] => hp (by rw [e]; rfl))] <;> simp)
                go_wp2_with fail
                go_ret
                exact ⟨ret_bool (by rw [← HF.out]; simp [hp]), HB1.out⟩
            · have HF : Hid (false = wi) := Lib.hid (by
                rw [← HWI.out, within_eq, HBT.out, if_pos HV2.out, decide_eq_false (fun e : c.raw = [] => hr (by rw [e]; rfl))] <;> simp)
              go_wp2_with fail
              go_ret
              exact ⟨ret_bool (by rw [← HF.out]), HB1.out⟩
          · have hok' : okReq c.req = false := by simpa using hok
            rw [okE_no hok']
            have HF : Hid (false = wi) := Lib.hid (by rw [← HWI.out, within_eq, HBT.out, if_pos HV2.out, hok']; simp)
            clear hok hok'
            go_wp2_with fail
            go_ret
            exact ⟨ret_bool HF.out, HB1.out⟩
        | false =>
          have hv2 : c.verb ≠ 2 := by simpa using HSY.out
          have HV2 := Lib.hid hv2
          clear hv2
          by_cases h0 : c.req.id = 0
          rotate_left
          · have HF : Hid (false = wi) := Lib.hid (by rw [← HWI.out, within_eq, HBT.out, if_neg HV2.out, decide_eq_false (fun e : c.req = req0 => h0 (by rw [e]; rfl))]; simp)
            have hb : (c.req.id == 0) = false := by rw [beq_eq_false_iff_ne]; exact h0
            go_wp2_with (first
              | ((with_reducible refine at_op ⟨_, .load 24 (.tmp 73), _, _, _, _⟩ ?_); refine wpList_load_list rfl 24 (.tmp 73) rfl ⟨w.heap.size, 2, none⟩ rfl [.int .u32 c.req.id, .int .i64 c.req.op, .string (S c.req.topic), .string (S c.req.key), .string (S c.req.value), .int .i64 c.req.off, .int .i64 c.req.num, .int .i64 c.req.pid, .int .i64 c.req.seq] (by have := req_load (c := c) (sR := .slice A c.raw.length a) (sP := .slice P c.picks.length p) (w := w0) (g := w.heap.size) (by rw [HCS.out]; exact HT0.out); unfold reqC at this; exact this) _ Tryz.underlying24 rfl (by kernel_rfl) ?_)
              | fail)
            go_ret
            exact ⟨ret_bool HF.out, HB0.out⟩
          by_cases h1 : c.req.op = 0
          rotate_left
          · have HF : Hid (false = wi) := Lib.hid (by rw [← HWI.out, within_eq, HBT.out, if_neg HV2.out, decide_eq_false (fun e : c.req = req0 => h1 (by rw [e]; rfl))]; simp)
            have hb : (c.req.op == 0) = false := by rw [beq_eq_false_iff_ne]; exact h1
            go_wp2_with (first
              | ((with_reducible refine at_op ⟨_, .load 24 (.tmp 73), _, _, _, _⟩ ?_); refine wpList_load_list rfl 24 (.tmp 73) rfl ⟨w.heap.size, 2, none⟩ rfl [.int .u32 0, .int .i64 c.req.op, .string (S c.req.topic), .string (S c.req.key), .string (S c.req.value), .int .i64 c.req.off, .int .i64 c.req.num, .int .i64 c.req.pid, .int .i64 c.req.seq] (by have := req_load (c := c) (sR := .slice A c.raw.length a) (sP := .slice P c.picks.length p) (w := w0) (g := w.heap.size) (by rw [HCS.out]; exact HT0.out); unfold reqC at this; rw [h0] at this; exact this) _ Tryz.underlying24 rfl (by kernel_rfl) ?_)
              | fail)
            go_ret
            exact ⟨ret_bool HF.out, HB0.out⟩
          by_cases h2 : c.req.topic = []
          rotate_left
          · have HF : Hid (false = wi) := Lib.hid (by rw [← HWI.out, within_eq, HBT.out, if_neg HV2.out, decide_eq_false (fun e : c.req = req0 => h2 (by rw [e]; rfl))]; simp)
            have hb : (S c.req.topic).toList.isEmpty = false := by rw [S_list]; simp [h2]
            go_wp2_with (first
              | ((with_reducible refine at_op ⟨_, .load 24 (.tmp 73), _, _, _, _⟩ ?_); refine wpList_load_list rfl 24 (.tmp 73) rfl ⟨w.heap.size, 2, none⟩ rfl [.int .u32 0, .int .i64 0, .string (S c.req.topic), .string (S c.req.key), .string (S c.req.value), .int .i64 c.req.off, .int .i64 c.req.num, .int .i64 c.req.pid, .int .i64 c.req.seq] (by have := req_load (c := c) (sR := .slice A c.raw.length a) (sP := .slice P c.picks.length p) (w := w0) (g := w.heap.size) (by rw [HCS.out]; exact HT0.out); unfold reqC at this; rw [h0, h1] at this; exact this) _ Tryz.underlying24 rfl (by kernel_rfl) ?_)
              | fail)
            go_ret
            exact ⟨ret_bool HF.out, HB0.out⟩
          by_cases h3 : c.req.key = []
          rotate_left
          · have HF : Hid (false = wi) := Lib.hid (by rw [← HWI.out, within_eq, HBT.out, if_neg HV2.out, decide_eq_false (fun e : c.req = req0 => h3 (by rw [e]; rfl))]; simp)
            have hb : (S c.req.key).toList.isEmpty = false := by rw [S_list]; simp [h3]
            go_wp2_with (first
              | ((with_reducible refine at_op ⟨_, .load 24 (.tmp 73), _, _, _, _⟩ ?_); refine wpList_load_list rfl 24 (.tmp 73) rfl ⟨w.heap.size, 2, none⟩ rfl [.int .u32 0, .int .i64 0, .string ⟨#[]⟩, .string (S c.req.key), .string (S c.req.value), .int .i64 c.req.off, .int .i64 c.req.num, .int .i64 c.req.pid, .int .i64 c.req.seq] (by have := req_load (c := c) (sR := .slice A c.raw.length a) (sP := .slice P c.picks.length p) (w := w0) (g := w.heap.size) (by rw [HCS.out]; exact HT0.out); unfold reqC at this; rw [h0, h1, h2] at this; exact this) _ Tryz.underlying24 rfl (by kernel_rfl) ?_)
              | fail)
            go_ret
            exact ⟨ret_bool HF.out, HB0.out⟩
          by_cases h4 : c.req.value = []
          rotate_left
          · have HF : Hid (false = wi) := Lib.hid (by rw [← HWI.out, within_eq, HBT.out, if_neg HV2.out, decide_eq_false (fun e : c.req = req0 => h4 (by rw [e]; rfl))]; simp)
            have hb : (S c.req.value).toList.isEmpty = false := by rw [S_list]; simp [h4]
            go_wp2_with (first
              | ((with_reducible refine at_op ⟨_, .load 24 (.tmp 73), _, _, _, _⟩ ?_); refine wpList_load_list rfl 24 (.tmp 73) rfl ⟨w.heap.size, 2, none⟩ rfl [.int .u32 0, .int .i64 0, .string ⟨#[]⟩, .string ⟨#[]⟩, .string (S c.req.value), .int .i64 c.req.off, .int .i64 c.req.num, .int .i64 c.req.pid, .int .i64 c.req.seq] (by have := req_load (c := c) (sR := .slice A c.raw.length a) (sP := .slice P c.picks.length p) (w := w0) (g := w.heap.size) (by rw [HCS.out]; exact HT0.out); unfold reqC at this; rw [h0, h1, h2, h3] at this; exact this) _ Tryz.underlying24 rfl (by kernel_rfl) ?_)
              | fail)
            go_ret
            exact ⟨ret_bool HF.out, HB0.out⟩
          by_cases h5 : c.req.off = 0
          rotate_left
          · have HF : Hid (false = wi) := Lib.hid (by rw [← HWI.out, within_eq, HBT.out, if_neg HV2.out, decide_eq_false (fun e : c.req = req0 => h5 (by rw [e]; rfl))]; simp)
            have hb : (c.req.off == 0) = false := by rw [beq_eq_false_iff_ne]; exact h5
            go_wp2_with (first
              | ((with_reducible refine at_op ⟨_, .load 24 (.tmp 73), _, _, _, _⟩ ?_); refine wpList_load_list rfl 24 (.tmp 73) rfl ⟨w.heap.size, 2, none⟩ rfl [.int .u32 0, .int .i64 0, .string ⟨#[]⟩, .string ⟨#[]⟩, .string ⟨#[]⟩, .int .i64 c.req.off, .int .i64 c.req.num, .int .i64 c.req.pid, .int .i64 c.req.seq] (by have := req_load (c := c) (sR := .slice A c.raw.length a) (sP := .slice P c.picks.length p) (w := w0) (g := w.heap.size) (by rw [HCS.out]; exact HT0.out); unfold reqC at this; rw [h0, h1, h2, h3, h4] at this; exact this) _ Tryz.underlying24 rfl (by kernel_rfl) ?_)
              | fail)
            go_ret
            exact ⟨ret_bool HF.out, HB0.out⟩
          by_cases h6 : c.req.num = 0
          rotate_left
          · have HF : Hid (false = wi) := Lib.hid (by rw [← HWI.out, within_eq, HBT.out, if_neg HV2.out, decide_eq_false (fun e : c.req = req0 => h6 (by rw [e]; rfl))]; simp)
            have hb : (c.req.num == 0) = false := by rw [beq_eq_false_iff_ne]; exact h6
            go_wp2_with (first
              | ((with_reducible refine at_op ⟨_, .load 24 (.tmp 73), _, _, _, _⟩ ?_); refine wpList_load_list rfl 24 (.tmp 73) rfl ⟨w.heap.size, 2, none⟩ rfl [.int .u32 0, .int .i64 0, .string ⟨#[]⟩, .string ⟨#[]⟩, .string ⟨#[]⟩, .int .i64 0, .int .i64 c.req.num, .int .i64 c.req.pid, .int .i64 c.req.seq] (by have := req_load (c := c) (sR := .slice A c.raw.length a) (sP := .slice P c.picks.length p) (w := w0) (g := w.heap.size) (by rw [HCS.out]; exact HT0.out); unfold reqC at this; rw [h0, h1, h2, h3, h4, h5] at this; exact this) _ Tryz.underlying24 rfl (by kernel_rfl) ?_)
              | fail)
            go_ret
            exact ⟨ret_bool HF.out, HB0.out⟩
          by_cases h7 : c.req.pid = 0
          rotate_left
          · have HF : Hid (false = wi) := Lib.hid (by rw [← HWI.out, within_eq, HBT.out, if_neg HV2.out, decide_eq_false (fun e : c.req = req0 => h7 (by rw [e]; rfl))]; simp)
            have hb : (c.req.pid == 0) = false := by rw [beq_eq_false_iff_ne]; exact h7
            go_wp2_with (first
              | ((with_reducible refine at_op ⟨_, .load 24 (.tmp 73), _, _, _, _⟩ ?_); refine wpList_load_list rfl 24 (.tmp 73) rfl ⟨w.heap.size, 2, none⟩ rfl [.int .u32 0, .int .i64 0, .string ⟨#[]⟩, .string ⟨#[]⟩, .string ⟨#[]⟩, .int .i64 0, .int .i64 0, .int .i64 c.req.pid, .int .i64 c.req.seq] (by have := req_load (c := c) (sR := .slice A c.raw.length a) (sP := .slice P c.picks.length p) (w := w0) (g := w.heap.size) (by rw [HCS.out]; exact HT0.out); unfold reqC at this; rw [h0, h1, h2, h3, h4, h5, h6] at this; exact this) _ Tryz.underlying24 rfl (by kernel_rfl) ?_)
              | fail)
            go_ret
            exact ⟨ret_bool HF.out, HB0.out⟩
          by_cases h8 : c.req.seq = 0
          rotate_left
          · have HF : Hid (false = wi) := Lib.hid (by rw [← HWI.out, within_eq, HBT.out, if_neg HV2.out, decide_eq_false (fun e : c.req = req0 => h8 (by rw [e]; rfl))]; simp)
            have hb : (c.req.seq == 0) = false := by rw [beq_eq_false_iff_ne]; exact h8
            go_wp2_with (first
              | ((with_reducible refine at_op ⟨_, .load 24 (.tmp 73), _, _, _, _⟩ ?_); refine wpList_load_list rfl 24 (.tmp 73) rfl ⟨w.heap.size, 2, none⟩ rfl [.int .u32 0, .int .i64 0, .string ⟨#[]⟩, .string ⟨#[]⟩, .string ⟨#[]⟩, .int .i64 0, .int .i64 0, .int .i64 0, .int .i64 c.req.seq] (by have := req_load (c := c) (sR := .slice A c.raw.length a) (sP := .slice P c.picks.length p) (w := w0) (g := w.heap.size) (by rw [HCS.out]; exact HT0.out); unfold reqC at this; rw [h0, h1, h2, h3, h4, h5, h6, h7] at this; exact this) _ Tryz.underlying24 rfl (by kernel_rfl) ?_)
              | fail)
            go_ret
            exact ⟨ret_bool HF.out, HB0.out⟩
          have hq : c.req = req0 := by
            obtain ⟨vb, cn, ⟨i0, i1, i2, i3, i4, i5, i6, i7, i8⟩, rr, nn, pp⟩ := c
            simp only at h0 h1 h2 h3 h4 h5 h6 h7 h8
            subst h0 h1 h2 h3 h4 h5 h6 h7 h8
            rfl
          have HW : Hid (wi = ((rw_ || ((c.raw.length : Int) == 0)) && (pk || ((c.picks.length : Int) == 0)))) := Lib.hid (by
            have e1 : decide (c.raw = []) = ((c.raw.length : Int) == 0) := by cases c.raw <;> simp; omega
            have e2 : decide (c.picks = []) = ((c.picks.length : Int) == 0) := by cases c.picks <;> simp; omega
            rw [← HWI.out, within_eq, HBT.out, if_neg HV2.out, decide_eq_true hq, HRW.out, HPK.out, e1, e2]; simp)
          go_wp2_with (first
            | ((with_reducible refine at_op ⟨_, .load 24 (.tmp 73), _, _, _, _⟩ ?_); refine wpList_load_list rfl 24 (.tmp 73) rfl ⟨w.heap.size, 2, none⟩ rfl [.int .u32 0, .int .i64 0, .string ⟨#[]⟩, .string ⟨#[]⟩, .string ⟨#[]⟩, .int .i64 0, .int .i64 0, .int .i64 0, .int .i64 0] (by have := req_load (c := c) (sR := .slice A c.raw.length a) (sP := .slice P c.picks.length p) (w := w0) (g := w.heap.size) (by rw [HCS.out]; exact HT0.out); rw [hq] at this; exact this) _ Tryz.underlying24 rfl (by kernel_rfl) ?_)
            | fail)
          all_goals
            go_ret
            exact ⟨ret_bool (by rw [HW.out]; simp [*]), HB0.out⟩
    · have HF : Hid (false = wi) := Lib.hid (by
        rw [← HWI.out, within_eq, HBB.out]
        symm
        rw [Bool.and_eq_false_iff]
        refine Or.inl ?_
        rw [Bool.eq_false_iff]
        intro h
        simp only [Bool.and_eq_true, Bool.or_eq_true, decide_eq_true_eq] at h
        exact hB ⟨h.1.1.1.1, h.1.1.1.2, h.1.1.2, h.1.2, h.2⟩)
      cases lb with
      | true =>
        have hB2 : ¬ (lo ≤ c.n ∧ c.n ≤ hi ∧ 0 ≤ c.conn ∧ c.conn ≤ 999) := fun h => hB ⟨h.1, h.2.1, h.2.2.1, h.2.2.2, Or.inl rfl⟩
        clear hB
        go_wp2_with fail
        all_goals
          go_ret
          exact ⟨ret_bool HF.out, HB0.out⟩
      | false =>
        have hB2 : ¬ (lo ≤ c.n ∧ c.n ≤ hi ∧ 0 ≤ c.conn ∧ c.conn ≤ 999 ∧ c.conn = 0) := fun h => hB ⟨h.1, h.2.1, h.2.2.1, h.2.2.2.1, Or.inr h.2.2.2.2⟩
        clear hB
        go_wp2_with fail
        all_goals
          go_ret
          exact ⟨ret_bool HF.out, HB0.out⟩
end Go.Proofs.YtepalbldleegiaaGreatDoor.sh
