/-
  beyond walked: are a response's names and records more than the bound?
  Conditions: texts have at most 2^47 letters.
-/
import Derived.Test.YtepalbldleegiaaGreatDoorSwx
namespace Go.Proofs.YtepalbldleegiaaGreatDoor.sh
open Go.RowKit

def over (r : Rsp Rec) : Bool := decide (2147483647 < lenN r.names + lenR r.recs)

set_option maxRecDepth 100000 in
set_option maxHeartbeats 4000000 in
theorem beyond_any (r : Rsp Rec) (A : Option Addr) (c : Nat) (D : Option Addr) (d : Nat) (w : World) (hnm : NamesAt w w.heap.size D r.names) (hrc : RecsAt w w.heap.size A r.recs)
    (hn1 : ∀ x ∈ r.names, x.length ≤ 140737488355328) (hr1 : ∀ x ∈ r.recs, x.key.length ≤ 140737488355328 ∧ x.val.length ≤ 140737488355328) (hl1 : r.names.length ≤ 140737488355328) (hl2 : r.recs.length ≤ 140737488355328) :
    Calls Tryz.prog 18 #[rspV r A c D d] w fun e w' => e = .returned (.bool (over r)) ∧ Below w.heap.size w w' := by
  unfold rspV
  have HNM := Lib.hid hnm
  have HRC := Lib.hid hrc
  have HN1 := Lib.hid hn1
  have HR1 := Lib.hid hr1
  clear hnm hrc hn1 hr1
  go_enter Tryz.func18, Tryz.ntmps18
  go_wp2_with fail
  go_loopw [3, 4] (fun s3 i wr => ∃ (j : Nat), j ≤ r.names.length ∧ i = .int .i64 j ∧ s3 = .int .i64 (lenN (r.names.take j)) ∧ lenN (r.names.take j) ≤ 2147483647 ∧ Hid (Below w.heap.size w wr) ∧ Hid (Blk wr w.heap.size 45 #[.int .u32 r.id, .int .i64 r.op, .int .i64 r.code, .int .i64 r.off, .int .i64 r.num, .bool r.more, .slice A r.recs.length c, .slice D r.names.length d])) (fun _ i _ => r.names.length - (intOf i).toNat)
  case atStart => exact ⟨0, Nat.zero_le _, rfl, rfl, Nat.zero_le _, (Below.refl _ _).alloc (Nat.le_refl _) _, Blk.new _ _ _⟩
  case round =>
    obtain ⟨j, hj, rfl, rfl, hle, HB, HT⟩ := hrel
    have q7 := HT.out.cell 7
    by_cases hlt : j < r.names.length
    · obtain ⟨b, off, rfl, hb, hcl⟩ := HNM.out (by intro e; rw [e] at hlt; simp at hlt)
      obtain ⟨x, hx⟩ : ∃ x, r.names[j] = x := ⟨_, rfl⟩
      have q0 := (HB.out.cell (p := ⟨b, off + j, none⟩) hb).trans (hcl j x (by rw [← hx]; exact List.getElem?_eq_getElem hlt))
      have hxl := HN1.out x (by rw [← hx]; exact List.getElem_mem hlt)
      have hnext : lenN (r.names.take (j + 1)) = lenN (r.names.take j) + 1 + x.length := by
        rw [List.take_succ_eq_append_getElem hlt, hx, lenN_append]
        simp [lenN]; omega
      have hsz : (S x).size = x.length := rfl
      clear hcl hb hx
      by_cases hov : 2147483647 < lenN (r.names.take j) + 1 + x.length
      · go_wp2_with fail
        go_ret
        exact ⟨ret_bool (by unfold over; rw [decide_eq_true]; have := lenN_take r.names (j + 1); omega), HB.out⟩
      · go_wp2_with fail
        exact ⟨⟨j + 1, by omega, by go_num, congrArg (Value.int .i64) (by rw [hnext]; omega), by rw [hnext]; omega, HB, HT⟩, by simp [intOf]; omega⟩
    · have hja : j = r.names.length := by omega
      have hfull : lenN (r.names.take j) = lenN r.names := by rw [hja, List.take_length]
      rw [hfull] at hle
      have HFU := Lib.hid hfull
      clear hfull hja
      go_wp2_with fail
      rw [HFU.out]
      obtain ⟨wo, rfl⟩ : ∃ wo : World, wo = wr := ⟨_, rfl⟩
      go_loopw [3, 5] (fun s3 i wr => ∃ (j : Nat), j ≤ r.recs.length ∧ i = .int .i64 j ∧ s3 = .int .i64 (lenN r.names + lenR (r.recs.take j) : Nat) ∧ lenN r.names + lenR (r.recs.take j) ≤ 2147483647 ∧ Hid (Below w.heap.size w wr) ∧ Hid (Blk wr w.heap.size 45 #[.int .u32 r.id, .int .i64 r.op, .int .i64 r.code, .int .i64 r.off, .int .i64 r.num, .bool r.more, .slice A r.recs.length c, .slice D r.names.length d])) (fun _ i _ => r.recs.length - (intOf i).toNat)
      case atStart => exact ⟨0, Nat.zero_le _, rfl, by simp [lenR], by simpa [lenR] using hle, HB, HT⟩
      case round =>
        obtain ⟨j, hj, rfl, rfl, hle2, HB2, HT2⟩ := hrel
        have q6 := HT2.out.cell 6
        by_cases hlt2 : j < r.recs.length
        · obtain ⟨b, off, rfl, hb, hcl⟩ := HRC.out (by intro e; rw [e] at hlt2; simp at hlt2)
          obtain ⟨x, hx⟩ : ∃ x, r.recs[j] = x := ⟨_, rfl⟩
          have hg := hcl j x (by rw [← hx]; exact List.getElem?_eq_getElem hlt2)
          have c5 : wr.cell? ⟨b, off + j * 7 + 5, none⟩ = some (.string (S x.key)) := (HB2.out.cell (p := ⟨b, off + j * 7 + 5, none⟩) hb).trans (hg 5 _ rfl)
          have c6 : wr.cell? ⟨b, off + j * 7 + 6, none⟩ = some (.string (S x.val)) := (HB2.out.cell (p := ⟨b, off + j * 7 + 6, none⟩) hb).trans (hg 6 _ rfl)
          have hxl := HR1.out x (by rw [← hx]; exact List.getElem_mem hlt2)
          obtain ⟨hxl1, hxl2⟩ := hxl
          have hnext : lenR (r.recs.take (j + 1)) = lenR (r.recs.take j) + 1 + x.key.length + x.val.length := by
            rw [List.take_succ_eq_append_getElem hlt2, hx, lenR_append]
            simp [lenR]; omega
          have hsz1 : (S x.key).size = x.key.length := rfl
          have hsz2 : (S x.val).size = x.val.length := rfl
          clear hcl hb hx hg
          by_cases hov : 2147483647 < lenN r.names + lenR (r.recs.take j) + 1 + x.key.length + x.val.length
          · go_wp2_with fail
            go_region
            all_goals go_wp2_with fail
            all_goals
              go_ret
              exact ⟨ret_bool (by unfold over; rw [decide_eq_true]; have := lenR_take r.recs (j + 1); omega), HB2.out.drew⟩
          · go_wp2_with fail
            go_region
            all_goals go_wp2_with fail
            all_goals
              exact ⟨⟨j + 1, by omega, by go_num, congrArg (Value.int .i64) (by rw [hnext]; omega), by rw [hnext]; omega, HB2.out.drew, HT2.out.drew⟩, by simp [intOf]; omega⟩
        · have hjr : j = r.recs.length := by omega
          have hfull : lenR (r.recs.take j) = lenR r.recs := by rw [hjr, List.take_length]
          rw [hfull] at hle2
          clear hfull hjr
          go_wp2_with fail
          go_ret
          exact ⟨ret_bool (by unfold over; rw [decide_eq_false (by omega)]), HB2.out⟩
end Go.Proofs.YtepalbldleegiaaGreatDoor.sh
