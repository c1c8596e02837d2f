/-
  sameRecords, kept and others walked.
  Conditions: the rows lie below the heap's end; at most 1048576 records each.
-/
import Derived.Test.YtjlfpcgopenkmaaCph
namespace Go.Proofs.Ytjlfpcgopenkmaa.cp
open Go.RowKit

set_option maxHeartbeats 2000000 in
/-- two rows that hold the same records -/
theorem same_any (l : List Rc) (A A' : Option Addr) (c c' : Nat) (w : World) (B B' : Nat) (hr : Recs w B A l) (hr' : Recs w B' A' l) (hn : l.length ≤ 1048576) :
    Calls Try.prog 14 #[.slice A l.length c, .slice A' l.length c'] w fun e w' => e = .returned (.bool true) ∧ ∀ D, Below D w w' := by
  have HR := Lib.hid hr
  have HR' := Lib.hid hr'
  clear hr hr'
  go_enter Try.func14, Try.ntmps14
  go_wp2_with fail
  go_loopw [5] (fun i wr => ∃ (k : Nat), k ≤ l.length ∧ i = .int .i64 k ∧ Hid (∀ D, Below D w wr)) (fun i _ => l.length - (intOf i).toNat)
  case atStart => exact ⟨0, Nat.zero_le _, rfl, fun D => Below.refl D _⟩
  case round =>
    obtain ⟨k, hk, rfl, HB⟩ := hrel
    by_cases hlt : k < l.length
    · obtain ⟨b, off, rfl, hb, hcl⟩ := HR.out.at_ hlt
      obtain ⟨b', off', rfl, hb', hcl'⟩ := HR'.out.at_ hlt
      obtain ⟨r, hrj⟩ : ∃ r, l[k] = r := ⟨_, rfl⟩
      rw [hrj] at hcl hcl'
      have hat : ∀ (j : Nat) (v : Value), (RcL r)[j]? = some v → wr.cell? ⟨b, off + k * 7 + j, none⟩ = some v := fun j v hv => ((HB.out B).cell (p := ⟨b, off + k * 7 + j, none⟩) hb).trans (by have := hcl j v hv; rwa [add_flat] at this)
      have hat' : ∀ (j : Nat) (v : Value), (RcL r)[j]? = some v → wr.cell? ⟨b', off' + k * 7 + j, none⟩ = some v := fun j v hv => ((HB.out B').cell (p := ⟨b', off' + k * 7 + j, none⟩) hb').trans (by have := hcl' j v hv; rwa [add_flat] at this)
      have s0 := hat 0 _ rfl
      have s1 := hat 1 _ rfl
      have s2 := hat 2 _ rfl
      have s3 := hat 3 _ rfl
      have s4 := hat 4 _ rfl
      have s5 := hat 5 _ rfl
      have s6 := hat 6 _ rfl
      have g0 := hat' 0 _ rfl
      have g1 := hat' 1 _ rfl
      have g2 := hat' 2 _ rfl
      have g3 := hat' 3 _ rfl
      have g4 := hat' 4 _ rfl
      have g5 := hat' 5 _ rfl
      have g6 := hat' 6 _ rfl
      rw [Nat.add_zero] at s0 g0
      clear hcl hcl' hat hat' hrj hb hb'
      go_wp2_with fail
      go_region
      all_goals (try go_wp2_with fail)
      all_goals exact ⟨⟨k + 1, by omega, by go_num, fun D => (HB.out D).drew⟩, by simp [intOf]; omega⟩
    · have hkl : k = l.length := by omega
      go_wp2_with fail
      go_ret
      exact ⟨rfl, HB.out⟩

set_option maxHeartbeats 2000000 in
theorem kept_any (l : List Rc) (A : Option Addr) (c : Nat) (w : World) (B g : Nat) (hr : Recs w B A l) (hn : l.length ≤ 1048576) (cs : Array Value) (hT : Blk w g 33 cs) (hR : Rows cs (l.length + 1) (l ++ [r77])) :
    Calls Try.prog 15 #[.slice (some ⟨g, 0, none⟩) (l.length + 1) (l.length + 1), .slice A l.length c] w fun e w' => e = .returned (.bool true) ∧ ∀ D, Below D w w' := by
  have hat : ∀ (j : Nat) (v : Value), (RcL r77)[j]? = some v → cs[l.length * 7 + j]? = some v := fun j v hv => hR.2.2 l.length r77 (by simp) j v hv
  have HAT := Lib.hid hat
  have HT := Lib.hid hT
  have HRR := Lib.hid hR
  have HR := Lib.hid hr
  clear hat hT hR hr
  go_enter Try.func15, Try.ntmps15
  go_wp2_with fail
  refine (same_any l (some ⟨g, 0, none⟩) A _ c w (g + 1) B (Rows.recs HT.out (by have := HRR.out.take l.length; rw [List.take_left' rfl] at this; exact this) (Nat.lt_succ_self _)) HR.out hn).mono ?_
  rintro e w1 ⟨rfl, hb1⟩
  have hat' : ∀ (j : Nat) (v : Value), (RcL r77)[j]? = some v → w1.cell? ⟨g, l.length * 7 + j, none⟩ = some v := fun j v hv => by
    rw [(HT.out.below (hb1 (g + 1)) (Nat.lt_succ_self _)).cell]; exact HAT.out j v hv
  have s0 : w1.cell? ⟨g, l.length * 7 + 0, none⟩ = some (.int .i64 77) := hat' 0 _ rfl
  have s1 : w1.cell? ⟨g, l.length * 7 + 1, none⟩ = some (.int .i64 0) := hat' 1 _ rfl
  have s2 : w1.cell? ⟨g, l.length * 7 + 2, none⟩ = some (.int .i64 0) := hat' 2 _ rfl
  have s3 : w1.cell? ⟨g, l.length * 7 + 3, none⟩ = some (.int .i64 0) := hat' 3 _ rfl
  have s4 : w1.cell? ⟨g, l.length * 7 + 4, none⟩ = some (.int .i64 0) := hat' 4 _ rfl
  have s5 : w1.cell? ⟨g, l.length * 7 + 5, none⟩ = some (.string ⟨#[]⟩) := hat' 5 _ rfl
  have s6 : w1.cell? ⟨g, l.length * 7 + 6, none⟩ = some (.string ⟨#[]⟩) := hat' 6 _ rfl
  rw [Nat.add_zero] at s0
  have hlt : l.length < l.length + 1 := Nat.lt_succ_self _
  have HB1 := Lib.hid hb1
  clear hat' hb1
  go_wp2_with fail
  go_ret
  exact ⟨rfl, HB1.out⟩

theorem put_flip (r : Rc) (x : Value) : putFrom (putFrom rc0 0 (RcL r)) 0 [x] = #[x, .int .i64 r.off, .int .i64 r.time, .int .i64 r.pid, .int .i64 r.seq, .string r.key, .string r.val] := by simp [putFrom, rc0, RcL]
theorem flip_load {w : World} {g : Nat} {r : Rc} {q : Int} (h : Blk w g 33 (putFrom (putFrom rc0 0 (RcL r)) 0 [.int .i64 q])) : ∀ (j : Nat) (v : Value), [Value.int .i64 q, .int .i64 r.off, .int .i64 r.time, .int .i64 r.pid, .int .i64 r.seq, .string r.key, .string r.val][j]? = some v → w.cell? ((⟨g, 0, none⟩ : Addr).add j) = some v := fun j v hv => by
  rw [put_flip] at h
  rw [add_flat, Nat.zero_add, h.cell]
  simpa using hv
def flip (r : Rc) : Rc := ⟨if r.kind = 2 then 1 else 2, r.off, r.time, r.pid, r.seq, r.key, r.val⟩

set_option maxHeartbeats 4000000 in
theorem others_any (l : List Rc) (A : Option Addr) (c : Nat) (w : World) (hr : Recs w w.heap.size A l) (hn : l.length ≤ 1048576) :
    Calls Try.prog 26 #[.slice A l.length c] w fun e w' => ∃ v, e = .returned v ∧ w'.ownsRow w.heap.size 33 7 v (l.map flip).length (flat (l.map flip)) ∧ Below w.heap.size w w' := by
  obtain ⟨i0, hi0, hz0, hz1, hz2⟩ := info_parts zero33
  have HR := Lib.hid hr
  clear hr
  go_enter Try.func26, Try.ntmps26
  go_wp2_with fail
  go_loopw [3, 4] (fun s i wr => ∃ (k : Nat), k ≤ l.length ∧ i = .int .i64 k ∧ Hid (Below w.heap.size w wr) ∧ Hid (wr.ownsRow w.heap.size 33 7 s k (flat ((l.take k).map flip)))) (fun _ i _ => l.length - (intOf i).toNat)
  case atStart => exact ⟨0, Nat.zero_le _, rfl, Below.refl _ _, World.ownsRow_nil _ _ _ _⟩
  case round =>
    obtain ⟨k, hk, rfl, HB, HV⟩ := hrel
    by_cases hlt : k < l.length
    · obtain ⟨b, off, rfl, hb, hcl⟩ := HR.out.at_ hlt
      have RS := Lib.hid (fun (i : Nat) (v : Value) (h : (RcL l[k])[i]? = some v) => (HB.out.cell (p := (⟨b, off + k * 7, none⟩ : Addr).add i) (by rw [add_flat]; exact hb)).trans (hcl i v h))
      obtain ⟨r, hrj⟩ : ∃ r, l[k] = r := ⟨_, rfl⟩
      rw [hrj] at RS
      have HJ := Lib.hid hrj
      have HW := Lib.hid HB.out.size
      have hb1 : k + 1 ≤ 4194304 := by omega
      have hb2 : (k + 1) * 72 ≤ 140737488355328 := by omega
      clear hcl hrj hb
      obtain ⟨q, hq⟩ : ∃ q : Int, q = if r.kind = 2 then 1 else 2 := ⟨_, rfl⟩
      have hfl : flip r = ⟨q, r.off, r.time, r.pid, r.seq, r.key, r.val⟩ := by unfold flip; rw [hq]
      have HFL := Lib.hid hfl
      clear hfl
      by_cases hk2 : r.kind = 2
      · obtain rfl : q = 1 := by rw [hq, if_pos hk2]
        clear hq
        go_wp2_with (first
          | ((with_reducible refine at_op ⟨_, .load 33 (.tmp 14), _, _, _, _⟩ ?_); refine wpList_load_list rfl 33 (.tmp 14) rfl ⟨b, off + k * 7, none⟩ rfl (RcL r) RS.out _ Try.underlying33 rfl (by kernel_rfl) ?_)
          | ((with_reducible refine at_op ⟨_, .store 33 (.tmp 5) (.tmp 15), _, _, _, _⟩ ?_); refine wpList_store_blk rfl 33 (.tmp 5) (.tmp 15) rfl wr.heap.size 0 rfl (RcL r) rfl (RcL_one r) 33 rc0 (Blk.new wr 33 rc0) (show 0 + 7 ≤ 7 from Nat.le_refl 7) (by kernel_rfl) ?_; intro w4 hT1 hg1 hs1; have q0 : w4.cell? ⟨wr.heap.size, 0, none⟩ = some (.int .i64 r.kind) := (hT1.cell 0).trans (put_rc rfl r 0 _ rfl); have HV4 := Lib.hid ((HV.out.alloc (.cells rc0 33)).kept hg1 (Or.inr (by intro e; have := (HV.out.lt _ e).2; omega))); have HT1 := Lib.hid hT1; have HG1 := Lib.hid hg1; have HS1 := Lib.hid hs1; clear hT1 hg1 hs1)
          | ((with_reducible refine at_op ⟨_, .store 3 (.tmp 19) _, _, _, _, _⟩ ?_); refine wpList_store_one rfl 3 (.tmp 19) _ rfl wr.heap.size 0 rfl (.int .i64 1) rfl (int_cells _ _) rfl 33 _ HT1.out (by rw [putFrom_size]; decide) (by kernel_rfl) ?_; intro w5 hT2 hg2 hs2; have HV5 := Lib.hid (HV4.out.kept hg2 (Or.inr (by intro e; have := (HV.out.lt _ e).2; omega))); have HT2 := Lib.hid hT2; have HG2 := Lib.hid hg2; have HS2 := Lib.hid hs2; clear hT2 hg2 hs2 q0)
          | ((with_reducible refine at_op ⟨_, .load 33 (.tmp 5), _, _, _, _⟩ ?_); refine wpList_load_list rfl 33 (.tmp 5) rfl ⟨wr.heap.size, 0, none⟩ rfl [.int .i64 1, .int .i64 r.off, .int .i64 r.time, .int .i64 r.pid, .int .i64 r.seq, .string r.key, .string r.val] (flip_load HT2.out) _ Try.underlying33 rfl (by kernel_rfl) ?_)
          | ((with_reducible refine at_op ⟨_, .call { callee := .builtin .append, args := #[.tmp 21, .tmp 23], argTypes := #[26, 26] }, _, _, _, _⟩ ?_); refine wpList_append_own _ rfl (.tmp 21) (.tmp 23) 26 rfl w.heap.size 33 i0 _ 7 72 Try.underlying26 hi0 hz0 hz1 hz2 rfl (by decide) _ k (flat ((l.take k).map flip)) rfl (HV5.out.alloc _) ⟨w5.heap.size, 0, none⟩ 1 1 (RcL (flip r)) rfl rfl (by rw [HFL.out]; exact blk_cells w5 ⟨1, r.off, r.time, r.pid, r.seq, r.key, r.val⟩) (RcL_one _) (Nat.le_of_lt (small_maxLen hb1)) hb2 (by rw [World.size_alloc, HS2.out, HS1.out, World.size_alloc]; have := HW.out; omega) ?_; intro v6 w6 hown6 hg6 _; have HV6 := Lib.hid hown6; have HG6 := Lib.hid hg6; clear hown6 hg6)
          | fail)
        have HBa : Hid (Below w.heap.size w w4) := below_gb (HB.out.alloc HW.out _) HG1.out (by rw [World.size_alloc]; exact Nat.le_succ_of_le HW.out) HW.out
        have HBb : Hid (Below w.heap.size w w5) := below_gb HBa.out HG2.out HBa.out.size HW.out
        have HBc : Hid (Below w.heap.size w w6) := (HBb.out.alloc HBb.out.size _).grown HG6.out (by rw [World.size_alloc]; exact Nat.le_succ_of_le HBb.out.size) (fun q hq => (HV5.out.lt q hq).1)
        go_roundw
        case rel => exact ⟨k + 1, by omega, by go_num, HBc, Lib.hid (by rw [take_snoc' _ _ hlt, HJ.out, List.map_append, List.map_cons, List.map_nil, flat_snoc]; exact HV6.out)⟩
        case measure => simp [intOf]; omega
      · obtain rfl : q = 2 := by rw [hq, if_neg hk2]
        clear hq
        go_wp2_with (first
          | ((with_reducible refine at_op ⟨_, .load 33 (.tmp 14), _, _, _, _⟩ ?_); refine wpList_load_list rfl 33 (.tmp 14) rfl ⟨b, off + k * 7, none⟩ rfl (RcL r) RS.out _ Try.underlying33 rfl (by kernel_rfl) ?_)
          | ((with_reducible refine at_op ⟨_, .store 33 (.tmp 5) (.tmp 15), _, _, _, _⟩ ?_); refine wpList_store_blk rfl 33 (.tmp 5) (.tmp 15) rfl wr.heap.size 0 rfl (RcL r) rfl (RcL_one r) 33 rc0 (Blk.new wr 33 rc0) (show 0 + 7 ≤ 7 from Nat.le_refl 7) (by kernel_rfl) ?_; intro w4 hT1 hg1 hs1; have q0 : w4.cell? ⟨wr.heap.size, 0, none⟩ = some (.int .i64 r.kind) := (hT1.cell 0).trans (put_rc rfl r 0 _ rfl); have HV4 := Lib.hid ((HV.out.alloc (.cells rc0 33)).kept hg1 (Or.inr (by intro e; have := (HV.out.lt _ e).2; omega))); have HT1 := Lib.hid hT1; have HG1 := Lib.hid hg1; have HS1 := Lib.hid hs1; clear hT1 hg1 hs1)
          | ((with_reducible refine at_op ⟨_, .store 3 (.tmp 20) _, _, _, _, _⟩ ?_); refine wpList_store_one rfl 3 (.tmp 20) _ rfl wr.heap.size 0 rfl (.int .i64 2) rfl (int_cells _ _) rfl 33 _ HT1.out (by rw [putFrom_size]; decide) (by kernel_rfl) ?_; intro w5 hT2 hg2 hs2; have HV5 := Lib.hid (HV4.out.kept hg2 (Or.inr (by intro e; have := (HV.out.lt _ e).2; omega))); have HT2 := Lib.hid hT2; have HG2 := Lib.hid hg2; have HS2 := Lib.hid hs2; clear hT2 hg2 hs2 q0)
          | ((with_reducible refine at_op ⟨_, .load 33 (.tmp 5), _, _, _, _⟩ ?_); refine wpList_load_list rfl 33 (.tmp 5) rfl ⟨wr.heap.size, 0, none⟩ rfl [.int .i64 2, .int .i64 r.off, .int .i64 r.time, .int .i64 r.pid, .int .i64 r.seq, .string r.key, .string r.val] (flip_load HT2.out) _ Try.underlying33 rfl (by kernel_rfl) ?_)
          | ((with_reducible refine at_op ⟨_, .call { callee := .builtin .append, args := #[.tmp 21, .tmp 23], argTypes := #[26, 26] }, _, _, _, _⟩ ?_); refine wpList_append_own _ rfl (.tmp 21) (.tmp 23) 26 rfl w.heap.size 33 i0 _ 7 72 Try.underlying26 hi0 hz0 hz1 hz2 rfl (by decide) _ k (flat ((l.take k).map flip)) rfl (HV5.out.alloc _) ⟨w5.heap.size, 0, none⟩ 1 1 (RcL (flip r)) rfl rfl (by rw [HFL.out]; exact blk_cells w5 ⟨2, r.off, r.time, r.pid, r.seq, r.key, r.val⟩) (RcL_one _) (Nat.le_of_lt (small_maxLen hb1)) hb2 (by rw [World.size_alloc, HS2.out, HS1.out, World.size_alloc]; have := HW.out; omega) ?_; intro v6 w6 hown6 hg6 _; have HV6 := Lib.hid hown6; have HG6 := Lib.hid hg6; clear hown6 hg6)
          | fail)
        have HBa : Hid (Below w.heap.size w w4) := below_gb (HB.out.alloc HW.out _) HG1.out (by rw [World.size_alloc]; exact Nat.le_succ_of_le HW.out) HW.out
        have HBb : Hid (Below w.heap.size w w5) := below_gb HBa.out HG2.out HBa.out.size HW.out
        have HBc : Hid (Below w.heap.size w w6) := (HBb.out.alloc HBb.out.size _).grown HG6.out (by rw [World.size_alloc]; exact Nat.le_succ_of_le HBb.out.size) (fun q hq => (HV5.out.lt q hq).1)
        go_roundw
        case rel => exact ⟨k + 1, by omega, by go_num, HBc, Lib.hid (by rw [take_snoc' _ _ hlt, HJ.out, List.map_append, List.map_cons, List.map_nil, flat_snoc]; exact HV6.out)⟩
        case measure => simp [intOf]; omega
    · have hkl : k = l.length := by omega
      have HV2 : Hid (wr.ownsRow w.heap.size 33 7 _ l.length (flat (l.map flip))) := Lib.hid (by have := HV.out; rw [hkl, List.take_length] at this; exact this)
      go_wp2_with fail
      go_ret
      exact ⟨_, rfl, by rw [List.length_map]; exact HV2.out, HB.out⟩
end Go.Proofs.Ytjlfpcgopenkmaa.cp
