/-
  Compact's rise walked: do the offsets of all records rise, list behind list?
  Conditions: the rows lie below the heap's end.
-/
import Derived.Test.YtjlfpcgopenkmaaCpc
namespace Go.Proofs.Ytjlfpcgopenkmaa.cp
open Go.RowKit

def preL (L : Nat → List Rc) : Nat → List Rc
  | 0 => []
  | k + 1 => preL L k ++ L k
theorem zero33 : (Try.prog.info? 33).map (fun i => (i.zero, i.size, i.bytes)) = some (some (.agg #[.int .i64 0, .int .i64 0, .int .i64 0, .int .i64 0, .int .i64 0, .string ByteArray.empty, .string ByteArray.empty]), 7, 72) := by kernel_rfl
def rc0 : Array Value := #[.int .i64 0, .int .i64 0, .int .i64 0, .int .i64 0, .int .i64 0, .string ByteArray.empty, .string ByteArray.empty]
theorem put_rc {cs : Array Value} (h : cs.size = 7) (r : Rc) : ∀ (j : Nat) (v : Value), (RcL r)[j]? = some v → (putFrom cs 0 (RcL r))[j]? = some v := fun j v hv => by
  have := putFrom_in (RcL r) cs 0 j (List.getElem?_eq_some_iff.1 hv).1 (by rw [h]; exact Nat.le_refl _)
  rw [Nat.zero_add] at this
  rw [this, hv]

set_option maxRecDepth 100000 in
theorem rise_any (L : Nat → List Rc) (S : Nat → Option Addr) (C : Nat → Nat) (w : World) (g : Nat) (hg : g < w.heap.size) (hc : ∀ k, k < 2 → w.cell? ⟨g, k, none⟩ = some (.slice (S k) (L k).length (C k)))
    (hr : ∀ k, k < 2 → Recs w w.heap.size (S k) (L k)) (hn : ∀ k, k < 2 → (L k).length ≤ 1048576) :
    Calls Try.prog 24 #[.slice (some ⟨g, 0, none⟩) 2 2] w fun e w' => e = .returned (.bool (riseP (-1) (preL L 2))) ∧ Below w.heap.size w w' := by
  go_enter Try.func24, Try.ntmps24
  go_wp2_with fail
  go_loopw [3, 10] (fun l i wr => ∃ (k : Nat) (x : Int), k ≤ 2 ∧ l = .int .i64 x ∧ i = .int .i64 k ∧ Hid (x = lastO (preL L k)) ∧ Hid (riseP (-1) (preL L k) = true) ∧ Hid (Below w.heap.size w wr)) (fun _ i _ => 2 - (intOf i).toNat)
  case atStart => exact ⟨0, -1, by omega, rfl, rfl, rfl, rfl, Below.refl _ _⟩
  case round =>
    obtain ⟨k, x, hk, rfl, rfl, hx, hp, hB⟩ := hrel
    by_cases hlt : k < 2
    · have q0 := (hB.out.cell (p := ⟨g, k, none⟩) hg).trans (hc k hlt)
      have hnk := hn k hlt
      have hr0 := hr k hlt
      obtain ⟨sk, hsk⟩ : ∃ sk, sk = S k := ⟨_, rfl⟩
      rw [← hsk] at q0 hr0
      have HR := Lib.hid hr0
      clear hr0 hsk
      have hd : decide ((k : Int) < 2) = true := decide_eq_true (by omega)
      have HC := Lib.hid hc
      have HRR := Lib.hid hr
      have HN := Lib.hid hn
      clear hc hr hn
      go_wp2_with fail
      obtain ⟨wo, rfl⟩ : ∃ wo : World, wo = wr := ⟨_, rfl⟩
      go_loopw [3, 16] (fun l i wr => ∃ (j : Nat) (y : Int), j ≤ (L k).length ∧ l = .int .i64 y ∧ i = .int .i64 j ∧ Hid (y = lastO (preL L k ++ (L k).take j)) ∧ Hid (riseP (-1) (preL L k ++ (L k).take j) = true) ∧ Hid (Below w.heap.size w wr)) (fun _ i _ => (L k).length - (intOf i).toNat)
      case atStart => exact ⟨0, x, Nat.zero_le _, rfl, rfl, by rw [List.take_zero, List.append_nil]; exact hx, by rw [List.take_zero, List.append_nil]; exact hp, hB⟩
      case round =>
        obtain ⟨j, y, hj, rfl, rfl, hy, hq, hB2⟩ := hrel
        by_cases hjl : j < (L k).length
        · obtain ⟨b, off, rfl, hb, hcl⟩ := HR.out.at_ hjl
          have RS := Lib.hid (fun (i : Nat) (v : Value) (h : (RcL (L k)[j])[i]? = some v) => (hB2.out.cell (p := (⟨b, off + j * 7, none⟩ : Addr).add i) (by rw [add_flat]; exact hb)).trans (hcl i v h))
          generalize hrj : (L k)[j] = r at *
          have HJ := Lib.hid hrj
          clear hcl hrj hb
          by_cases c1 : r.off ≤ y ∨ 1099511627776 ≤ r.off
          · go_wp2_with (first
              | ((with_reducible refine at_op ⟨_, .load 33 (.tmp 18), _, _, _, _⟩ ?_); refine wpList_load_list rfl 33 (.tmp 18) rfl ⟨b, off + j * 7, none⟩ rfl (RcL r) RS.out _ Try.underlying33 rfl (by kernel_rfl) ?_)
              | ((with_reducible refine at_op ⟨_, .store 33 (.tmp 7) (.tmp 19), _, _, _, _⟩ ?_); refine wpList_store_blk rfl 33 (.tmp 7) (.tmp 19) rfl wr.heap.size 0 rfl (RcL r) rfl (RcL_one r) 33 rc0 (Blk.new wr 33 rc0) (show 0 + 7 ≤ 7 from Nat.le_refl 7) (by kernel_rfl) ?_; intro w1 hT1 hg1 hs1; have q1 : w1.cell? ⟨wr.heap.size, 1, none⟩ = some (.int .i64 r.off) := (hT1.cell 1).trans (put_rc rfl r 1 _ rfl); clear hT1))
            all_goals
              have HB3 : Hid (Below w.heap.size w w1) := below_gb (hB2.out.alloc hB2.out.size _) hg1 (by rw [World.size_alloc]; exact Nat.le_succ_of_le hB2.out.size) hB2.out.size
              go_ret
              refine ⟨ret_bool ?_, HB3.out⟩
              have e0 : ∃ t, preL L 2 = (preL L k ++ (L k).take j) ++ r :: t := by
                have h1 : L k = (L k).take j ++ r :: (L k).drop (j + 1) := by
                  have h2 := List.take_append_drop j (L k)
                  rw [List.drop_eq_getElem_cons hjl, HJ.out] at h2
                  exact h2.symm
                rcases (by omega : k = 0 ∨ k = 1) with rfl | rfl
                · refine ⟨(L 0).drop (j + 1) ++ L 1, ?_⟩
                  show ([] ++ L 0) ++ L 1 = ([] ++ (L 0).take j) ++ _
                  simp only [List.nil_append]
                  rw [← List.cons_append, ← List.append_assoc, ← h1]
                · refine ⟨(L 1).drop (j + 1), ?_⟩
                  show preL L 1 ++ L 1 = _
                  rw [List.append_assoc, ← h1]
              obtain ⟨t, e0⟩ := e0
              rw [e0]
              exact (rise_stop (by rw [← hy.out]; omega)).symm
          · go_wp2_with (first
              | ((with_reducible refine at_op ⟨_, .load 33 (.tmp 18), _, _, _, _⟩ ?_); refine wpList_load_list rfl 33 (.tmp 18) rfl ⟨b, off + j * 7, none⟩ rfl (RcL r) RS.out _ Try.underlying33 rfl (by kernel_rfl) ?_)
              | ((with_reducible refine at_op ⟨_, .store 33 (.tmp 7) (.tmp 19), _, _, _, _⟩ ?_); refine wpList_store_blk rfl 33 (.tmp 7) (.tmp 19) rfl wr.heap.size 0 rfl (RcL r) rfl (RcL_one r) 33 rc0 (Blk.new wr 33 rc0) (show 0 + 7 ≤ 7 from Nat.le_refl 7) (by kernel_rfl) ?_; intro w1 hT1 hg1 hs1; have q1 : w1.cell? ⟨wr.heap.size, 1, none⟩ = some (.int .i64 r.off) := (hT1.cell 1).trans (put_rc rfl r 1 _ rfl); clear hT1))
            have HB3 : Hid (Below w.heap.size w w1) := below_gb (hB2.out.alloc hB2.out.size _) hg1 (by rw [World.size_alloc]; exact Nat.le_succ_of_le hB2.out.size) hB2.out.size
            have e1 : preL L k ++ (L k).take (j + 1) = (preL L k ++ (L k).take j) ++ [r] := by rw [take_snoc' _ _ hjl, HJ.out, List.append_assoc]
            go_roundw
            case rel => exact ⟨j + 1, r.off, by omega, rfl, by go_num, by show r.off = _; rw [e1, lastO_snoc], by show riseP _ _ = true; rw [e1]; exact rise_step hq.out (by rw [← hy.out]; omega) (by omega), HB3.out⟩
            case measure => simp [intOf]; omega
        · obtain rfl : j = (L k).length := by omega
          go_wp2_with fail
          go_roundw
          case rel => exact ⟨k + 1, y, by omega, rfl, by go_num, by rw [List.take_length] at hy; exact hy, by rw [List.take_length] at hq; exact hq, hB2⟩
          case measure => simp [intOf]; omega
    · have hk2 : k = 2 := by omega
      go_wp2_with fail
      go_ret
      exact ⟨by rw [show riseP (-1) (preL L 2) = true from hk2 ▸ hp.out]; rfl, hB.out⟩
end Go.Proofs.Ytjlfpcgopenkmaa.cp
