/-
  The check sum: walked.
  Conditions: none.
-/
import Derived.Test.YtepmjghgnhklfaaGreatDoorMem
import Derived.WalkSpells
import Derived.WalkLawsBesides
import Derived.Lib.Hide
import Derived.Laws.BitsAllLaws
namespace Go.Proofs.YtepmjghgnhklfaaGreatDoor.oc
open Go.RowKit
set_option maxRecDepth 100000

def stepN (n : Nat) : Nat := if n % 2 = 1 then (n / 2) ^^^ 2197175160 else n / 2
theorem stepN_lt {n : Nat} (h : n < 4294967296) : stepN n < 4294967296 := by
  unfold stepN
  split
  · exact Nat.xor_lt_two_pow (n := 32) (by omega) (by decide)
  · omega
theorem and_one (n : Nat) (h : n < 4294967296) : bits .and .u32 (n : Int) 1 = ((n % 2 : Nat) : Int) := by
  have := u32_and_nat n 1 h (by decide)
  rwa [Nat.and_one_is_mod] at this
theorem xor_half (n : Nat) (h : n < 4294967296) : bits .xor .u32 ((n : Int) / 2) 2197175160 = (((n / 2) ^^^ 2197175160 : Nat) : Int) := by
  rw [show ((n : Int) / 2) = ((n / 2 : Nat) : Int) by omega]
  exact u32_xor_nat (n / 2) 2197175160 (by omega) (by decide)
theorem ret_u32 {a b : Int} (h : a = b) : Ending.returned (.int .u32 a) = .returned (.int .u32 b) := by rw [h]
theorem step_any (n : Nat) (h : n < 4294967296) (w : World) : Calls Tryz.prog 199 #[.int .u32 (n : Int)] w fun e w' => e = .returned (.int .u32 (stepN n : Nat)) ∧ w = w' := by
  have ha := and_one n h
  have hx := xor_half n h
  have h' : (n : Int) < 4294967296 := by omega
  by_cases hn : n % 2 = 1
  · rw [hn] at ha
    have HS : Hid (stepN n = (n / 2) ^^^ 2197175160) := Lib.hid (by unfold stepN; rw [if_pos hn])
    clear hn
    generalize (n / 2) ^^^ 2197175160 = k at *
    go_enter Tryz.func199, Tryz.ntmps199
    go_wp2
    go_ret
    exact ⟨ret_u32 (by rw [HS.out]), rfl⟩
  · have h0 : n % 2 = 0 := by omega
    rw [h0] at ha
    have HS : Hid (stepN n = n / 2) := Lib.hid (by unfold stepN; rw [if_neg hn])
    clear hn hx h0
    go_enter Tryz.func199, Tryz.ntmps199
    go_wp2
    go_ret
    exact ⟨ret_u32 (by rw [HS.out]; omega), rfl⟩

def step4 : Nat → Nat → Nat
  | 0, n => n
  | k + 1, n => stepN (step4 k n)
def tabN (i : Nat) : Nat := step4 4 i
theorem step4_lt {n : Nat} (h : n < 4294967296) : ∀ k, step4 k n < 4294967296
  | 0 => h
  | k + 1 => stepN_lt (step4_lt h k)
theorem tabN_lt {n : Nat} (h : n < 16) : tabN n < 4294967296 := step4_lt (by omega) 4
/-- the table behind i rounds -/
def tabL (i : Nat) : List Value := (List.range 16).map fun j => if j < i then .int .u32 (tabN j : Nat) else .int .u32 0
theorem tabL_length (i : Nat) : (tabL i).length = 16 := by simp [tabL]
theorem tabL_at (i j : Nat) (h : j < 16) : (tabL i)[j]? = some (if j < i then .int .u32 (tabN j : Nat) else .int .u32 0) := by simp [tabL, h]
theorem tabL_set (i : Nat) (h : i < 16) : (tabL i).toArray.setIfInBounds i (.int .u32 (tabN i : Nat)) = (tabL (i + 1)).toArray := by
  apply Array.ext_getElem?
  intro j
  rw [Array.getElem?_setIfInBounds]
  by_cases hj : j < 16
  · by_cases e : i = j
    · subst e
      rw [if_pos rfl, if_pos (by simp [tabL_length]; exact h), List.getElem?_toArray, tabL_at _ _ h, if_pos (by omega)]
    · rw [if_neg e, List.getElem?_toArray, List.getElem?_toArray, tabL_at _ _ hj, tabL_at _ _ hj]
      by_cases h1 : j < i
      · rw [if_pos h1, if_pos (by omega)]
      · rw [if_neg h1, if_neg (by omega)]
  · rw [if_neg (by omega), List.getElem?_toArray, List.getElem?_toArray, List.getElem?_eq_none (by rw [tabL_length]; omega), List.getElem?_eq_none (by rw [tabL_length]; omega)]
theorem put_all (l : List Value) (c : Array Value) (h : c.size = l.length) : putFrom c 0 l = l.toArray := by
  apply Array.ext_getElem?
  intro j
  by_cases hj : j < l.length
  · have := putFrom_in l c 0 j hj (by omega)
    rw [Nat.zero_add] at this
    rw [this, List.getElem?_toArray]
  · rw [Array.getElem?_eq_none (by rw [putFrom_size]; omega), Array.getElem?_eq_none (by simp; omega)]
theorem results_sums (tmps : Array Value) (w : World) (b : Nat) (cs : List Value) (hl : cs.length = 16) (h0 : tmps.getD 0 undef = .pointer (some ⟨b, 0, none⟩)) (hc : Blk w b 251 cs.toArray) :
    (results Tryz.f159 tmps).run Tryz.prog w = .ok (.agg cs.toArray) w := by
  have h0' : tmps[0]?.getD undef = .pointer (some ⟨b, 0, none⟩) := by simpa using h0
  have hi : (Tryz.prog.info? 251).map (·.size) = some cs.toArray.size := by simp only [List.size_toArray, hl]; kernel_rfl
  simp [results, h0', asAddr, run_loadVar_row w b 251 251 cs.toArray (0, 0) _ hc Tryz.underlying251 rfl hi]
set_option maxHeartbeats 1000000 in
theorem sums_any (w : World) : Calls Tryz.prog 159 #[] w fun e w' => e = .returned (.agg (tabL 16).toArray) ∧ Below w.heap.size w w' := by
  have hT0 : Blk ((w.alloc (.cells #[.int .u32 0, .int .u32 0, .int .u32 0, .int .u32 0, .int .u32 0, .int .u32 0, .int .u32 0, .int .u32 0, .int .u32 0, .int .u32 0, .int .u32 0, .int .u32 0, .int .u32 0, .int .u32 0, .int .u32 0, .int .u32 0] 251)).alloc (.cells #[.int .u32 0, .int .u32 0, .int .u32 0, .int .u32 0, .int .u32 0, .int .u32 0, .int .u32 0, .int .u32 0, .int .u32 0, .int .u32 0, .int .u32 0, .int .u32 0, .int .u32 0, .int .u32 0, .int .u32 0, .int .u32 0] 251)) w.heap.size 251 (tabL 0).toArray := (Blk.new w _ _).alloc _
  have hT1 : Blk ((w.alloc (.cells #[.int .u32 0, .int .u32 0, .int .u32 0, .int .u32 0, .int .u32 0, .int .u32 0, .int .u32 0, .int .u32 0, .int .u32 0, .int .u32 0, .int .u32 0, .int .u32 0, .int .u32 0, .int .u32 0, .int .u32 0, .int .u32 0] 251)).alloc (.cells #[.int .u32 0, .int .u32 0, .int .u32 0, .int .u32 0, .int .u32 0, .int .u32 0, .int .u32 0, .int .u32 0, .int .u32 0, .int .u32 0, .int .u32 0, .int .u32 0, .int .u32 0, .int .u32 0, .int .u32 0, .int .u32 0] 251)) (w.heap.size + 1) 251 (tabL 0).toArray := by have := Blk.new (w.alloc (.cells #[.int .u32 0, .int .u32 0, .int .u32 0, .int .u32 0, .int .u32 0, .int .u32 0, .int .u32 0, .int .u32 0, .int .u32 0, .int .u32 0, .int .u32 0, .int .u32 0, .int .u32 0, .int .u32 0, .int .u32 0, .int .u32 0] 251)) 251 #[.int .u32 0, .int .u32 0, .int .u32 0, .int .u32 0, .int .u32 0, .int .u32 0, .int .u32 0, .int .u32 0, .int .u32 0, .int .u32 0, .int .u32 0, .int .u32 0, .int .u32 0, .int .u32 0, .int .u32 0, .int .u32 0]; rwa [World.size_alloc] at this
  have hb : Below w.heap.size w ((w.alloc (.cells #[.int .u32 0, .int .u32 0, .int .u32 0, .int .u32 0, .int .u32 0, .int .u32 0, .int .u32 0, .int .u32 0, .int .u32 0, .int .u32 0, .int .u32 0, .int .u32 0, .int .u32 0, .int .u32 0, .int .u32 0, .int .u32 0] 251)).alloc (.cells #[.int .u32 0, .int .u32 0, .int .u32 0, .int .u32 0, .int .u32 0, .int .u32 0, .int .u32 0, .int .u32 0, .int .u32 0, .int .u32 0, .int .u32 0, .int .u32 0, .int .u32 0, .int .u32 0, .int .u32 0, .int .u32 0] 251)) := ((Below.refl _ _).alloc (Nat.le_refl _) _).alloc (by simp) _
  go_enter Tryz.func159, Tryz.ntmps159
  go_wp2_with fail
  generalize World.alloc (World.alloc w _) _ = w0 at *
  have HT0 := Lib.hid hT0
  have HT1 := Lib.hid hT1
  have HB := Lib.hid hb
  clear hT0 hT1 hb
  go_loopw [4] (fun i wr => ∃ k : Nat, k ≤ 16 ∧ i = .int .i64 (k : Int) ∧ Hid (Blk wr (w.heap.size + 1) 251 (tabL k).toArray) ∧ Hid (Blk wr w.heap.size 251 (tabL 0).toArray) ∧ Hid (Below w.heap.size w wr)) (fun i _ => 16 - (intOf i).toNat)
  case atStart => exact ⟨0, Nat.zero_le _, rfl, HT1, HT0, HB⟩
  case round =>
    obtain ⟨k, hk, rfl, HR1, HR0, HRB⟩ := hrel
    clear HT0 HT1 HB
    by_cases hlt : k < 16
    · have hlt' : decide ((k : Int) < 16) = true := by simp; omega
      go_wp2_with fail
      go_loop [3, 9] (fun x j => ∃ m : Nat, m ≤ 4 ∧ j = .int .i64 (m : Int) ∧ x = .int .u32 (step4 m k : Nat)) (fun _ j => 4 - (intOf j).toNat)
      case atStart => exact ⟨0, Nat.zero_le _, rfl, rfl⟩
      case round =>
        obtain ⟨m, hm, rfl, rfl⟩ := hrel
        have hs4 : step4 m k < 4294967296 := step4_lt (by omega) m
        obtain ⟨y, hy⟩ : ∃ y, step4 m k = y := ⟨_, rfl⟩
        have HY := Lib.hid hy
        rw [hy] at hs4 ⊢
        clear hy
        by_cases hm4 : m < 4
        · go_wp2_with (go_at_call 199; refine (step_any _ hs4 _).mono ?_; rintro e w1 ⟨rfl, rfl⟩)
          go_round
          case rel => exact ⟨m + 1, by omega, by go_num, by rw [← HY.out]; rfl⟩
          case measure => simp [intOf]; omega
        · have hm' : m = 4 := by omega
          have HY4 : Hid (tabN k = y) := Lib.hid (by rw [← HY.out, hm']; rfl)
          have c1 : wr.cell? ⟨w.heap.size + 1, k, none⟩ = some (.int .u32 0) := by rw [HR1.out.cell, List.getElem?_toArray, tabL_at _ _ hlt, if_neg (Nat.lt_irrefl _)]
          have f1 := HR1.out.frozen k
          clear hm' HY
          go_wp2_with fail
          have hb2 : Below w.heap.size w (wr.setCell ⟨w.heap.size + 1, k, none⟩ (.int .u32 (y : Nat))) := HRB.out.setCell (by simp) _
          have hr2 := HR1.out.set_ k (.int .u32 (y : Nat))
          rw [← HY4.out, tabL_set k hlt, HY4.out] at hr2
          have hr0 := HR0.out.far (p := ⟨w.heap.size + 1, k, none⟩) (by simp) (.int .u32 (y : Nat))
          go_roundw
          case rel => exact ⟨k + 1, by omega, by go_num, hr2, hr0, hb2⟩
          case measure => simp [intOf]; omega
    · obtain rfl : k = 16 := by omega
      go_wp2_with (first
        | ((with_reducible refine at_op ⟨_, .load 251 (.tmp 1), _, _, _, _⟩ ?_); refine wpList_load_list rfl 251 (.tmp 1) rfl ⟨w.heap.size + 1, 0, none⟩ rfl (tabL 16) (fun j v hv => by rw [add_flat, Nat.zero_add, HR1.out.cell, List.getElem?_toArray]; exact hv) _ Tryz.underlying251 rfl (by kernel_rfl) ?_)
        | ((with_reducible refine at_op ⟨_, .store 251 (.tmp 0) (.tmp 18), _, _, _, _⟩ ?_); refine wpList_store_blk rfl 251 (.tmp 0) (.tmp 18) rfl w.heap.size 0 rfl (tabL 16) rfl (by decide) 251 _ HR0.out (by simp [tabL_length]) (by kernel_rfl) ?_; intro w2 hT2 hg2 hs2)
        | fail)
      rw [put_all _ _ (by simp [tabL_length])] at hT2
      refine bodyPost_ret (results_sums _ _ w.heap.size (tabL 16) (tabL_length _) rfl hT2) rfl ⟨rfl, below_gb HRB.out hg2 HRB.out.size (Nat.le_refl _)⟩
end Go.Proofs.YtepmjghgnhklfaaGreatDoor.oc
