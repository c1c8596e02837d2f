/-
  duePlaced walked: Due asked of a list made of the given one turned round, then of the same memory with the given numbers in it.
  Conditions: the row lies below the heap's end and within the form's reach.
-/
import Derived.Test.YtjlfpcgopenkmaaDuec
import Derived.Test.YtjlfpcgopenkmaaMem
namespace Go.Proofs.Ytjlfpcgopenkmaa.due
open Go.RowKit

theorem info36 : (Try.prog.info? 36).map (fun i => (i.zero, i.size, i.bytes)) = some (some (.agg #[.int .i64 0, .int .i64 0, .int .i64 0, .int .i64 0, .int .i64 0]), 5, 40) := by kernel_rfl

/-- the list turned round, each one's bytes and live bytes exchanged with those of the one whose place it takes -/
def turned (n : Nat) (f : Nat → Nat → Int) (i j : Nat) : Int := if j = 3 then f i 4 else if j = 4 then f i 3 else f (n - 1 - i) j
def vals (f : Nat → Nat → Int) (i j : Nat) : Value := .int .i64 (f i j)

def rowL (f : Nat → Nat → Int) (i : Nat) : List Value := [.int .i64 (f i 0), .int .i64 (f i 1), .int .i64 (f i 2), .int .i64 (f i 3), .int .i64 (f i 4)]
theorem rowL_one (f : Nat → Nat → Int) (i : Nat) : ∀ u ∈ rowL f i, u.oneCell' = true := by
  intro u hu
  simp only [rowL, List.mem_cons, List.not_mem_nil, or_false] at hu
  rcases hu with rfl | rfl | rfl | rfl | rfl <;> rfl
theorem rowL_get (f : Nat → Nat → Int) (i j : Nat) (h : j < 5) : (rowL f i)[j]? = some (vals f i j) := by
  rcases (by omega : j = 0 ∨ j = 1 ∨ j = 2 ∨ j = 3 ∨ j = 4) with rfl | rfl | rfl | rfl | rfl <;> rfl
theorem rowL_cells {w : World} {b x : Nat} {f : Nat → Nat → Int} {i : Nat} (h : ∀ j, j < 5 → w.cell? ⟨b, x + j, none⟩ = some (vals f i j)) : ∀ j v, (rowL f i)[j]? = some v → w.cell? ((⟨b, x, none⟩ : Addr).add j) = some v := by
  intro j v hv
  have hj : j < 5 := by
    have := (List.getElem?_eq_some_iff.1 hv).1
    simpa [rowL] using this
  rw [rowL_get f i j hj] at hv
  injection hv with hv
  rw [add_flat, h j hj, hv]
theorem one_int (a : Int) : ∀ u ∈ [Value.int .i64 a], u.oneCell' = true := by
  intro u hu; rw [List.mem_singleton] at hu; subst hu; rfl
theorem stats_of {w : World} {g n : Nat} {cs : Array Value} {f : Nat → Nat → Int} (hb : Blk w g 36 cs) (hr : RowsAt cs 5 n (vals f)) : Stats w w.heap.size (some ⟨g, 0, none⟩) n f :=
  fun _ => ⟨g, 0, rfl, hb.lt, fun i hi j hj => by rw [hb.cell, Nat.zero_add, hr i hi j hj]; rfl⟩
theorem stats_below {w w' : World} {B n : Nat} {A : Option Addr} {f : Nat → Nat → Int} (h : Stats w B A n f) (hb : Below B w w') : Stats w' B A n f := fun hn => by
  obtain ⟨b, off, e, hB, hc⟩ := h hn
  exact ⟨b, off, e, hB, fun i hi j hj => (hb.cell (p := ⟨b, off + i * 5 + j, none⟩) hB).trans (hc i hi j hj)⟩
theorem turned_ints {n : Nat} {f : Nat → Nat → Int} (h : Ints n f) : Ints n (turned n f) := by
  intro i hi j hj
  unfold turned
  split
  · exact h i hi 4 (by omega)
  · split
    · exact h i hi 3 (by omega)
    · exact h (n - 1 - i) (by omega) j hj
theorem rows_last {cs : Array Value} {n : Nat} {f : Nat → Nat → Value} (l : List Value) (h : RowsAt cs 5 n f) : RowsAt (putFrom cs (n * 5) l) 5 n f := fun i hi j hj => by
  rw [putFrom_out _ _ _ _ (Or.inl (idx_lt hi hj)), h i hi j hj]
def lastL : List Value := [.int .i64 (-77), .int .i64 0, .int .i64 0, .int .i64 0, .int .i64 0]
theorem lastL_one : ∀ u ∈ lastL, u.oneCell' = true := by
  intro u hu
  simp only [lastL, List.mem_cons, List.not_mem_nil, or_false] at hu
  rcases hu with rfl | rfl | rfl | rfl | rfl <;> rfl
/-- what the first loop's round has put down -/
def mixed (ct : Array Value) (n : Nat) (f : Nat → Nat → Int) (k : Nat) : Array Value :=
  putFrom (putFrom (putFrom ct (k * 5) (rowL f (n - 1 - k))) (k * 5 + 3) [.int .i64 (f k 4)]) (k * 5 + 4) [.int .i64 (f k 3)]
theorem mixed_size (ct : Array Value) (n : Nat) (f : Nat → Nat → Int) (k : Nat) : (mixed ct n f k).size = ct.size := by simp [mixed, putFrom_size]
theorem mixed_rows {ct : Array Value} {n : Nat} {f : Nat → Nat → Int} {k : Nat} (h : RowsAt ct 5 k (vals (turned n f))) (hs : ct.size = n * 5) (hk : k < n) : RowsAt (mixed ct n f k) 5 (k + 1) (vals (turned n f)) := by
  have hl : (rowL f (n - 1 - k)).length = 5 := rfl
  intro i hi j hj
  unfold mixed
  by_cases e : i = k
  · subst e
    have hin := putFrom_in (rowL f (n - 1 - i)) ct (i * 5) j (by omega) (by omega)
    rw [rowL_get f _ j hj] at hin
    rcases (by omega : j < 3 ∨ j = 3 ∨ j = 4) with h3 | rfl | rfl
    · rw [putFrom_out _ _ _ _ (Or.inl (by omega)), putFrom_out _ _ _ _ (Or.inl (by omega)), hin]
      unfold vals turned
      rw [if_neg (by omega), if_neg (by omega)]
    · rw [putFrom_out _ _ _ _ (Or.inl (by omega))]
      exact putFrom_in [Value.int .i64 (f i 4)] _ (i * 5 + 3) 0 (by simp) (by simp [putFrom_size]; omega)
    · exact putFrom_in [Value.int .i64 (f i 3)] _ (i * 5 + 4) 0 (by simp) (by simp [putFrom_size]; omega)
  · have hik : i * 5 + 5 ≤ k * 5 := by omega
    rw [putFrom_out _ _ _ _ (Or.inl (by omega)), putFrom_out _ _ _ _ (Or.inl (by omega)), putFrom_out _ _ _ _ (Or.inl (by omega))]
    exact h i (by omega) j hj

set_option maxRecDepth 100000 in
set_option maxHeartbeats 1000000 in
theorem placed_any (A : Option Addr) (n c : Nat) (f : Nat → Nat → Int) (s : Int) (w : World) (h : Stats w w.heap.size A n f) (hi : Ints n f) (hn : n * 40 ≤ 140737488351232) :
    Calls Try.prog 10 #[.slice A n c, .int .i64 s] w fun e w' => e = .returned (.bool true) ∧ Below w.heap.size w w' := by
  obtain ⟨i0, hi0, hz0, hz1, hz2⟩ := info_parts info36
  have hmk1 : ∀ W : World, (Instr.makeSlice 24 (.int .i64 ((n : Int) + 1)) (.int .i64 ((n : Int) + 1))).run Try.prog W = .ok (.slice (some ⟨W.heap.size, 0, none⟩) (n + 1) (n + 1)) (W.alloc (.cells (madeCells (Value.agg #[.int .i64 0, .int .i64 0, .int .i64 0, .int .i64 0, .int .i64 0]).cells ((n + 1) * 5)) 36)) := fun W => by
    have := run_make_rowN (P := Try.prog) 24 36 i0 _ Try.underlying24 hi0 hz0 .i64 .i64 (n + 1) (n + 1) (Nat.le_refl _) (by rw [hz2]; omega) (by omega) W
    rw [hz1] at this
    exact this
  have hmk2 : ∀ W : World, (Instr.makeSlice 24 (.int .i64 (n : Int)) (.int .i64 (n : Int))).run Try.prog W = .ok (.slice (some ⟨W.heap.size, 0, none⟩) n n) (W.alloc (.cells (madeCells (Value.agg #[.int .i64 0, .int .i64 0, .int .i64 0, .int .i64 0, .int .i64 0]).cells (n * 5)) 36)) := fun W => by
    have := run_make_rowN (P := Try.prog) 24 36 i0 _ Try.underlying24 hi0 hz0 .i64 .i64 n n (Nat.le_refl _) (by rw [hz2]; omega) (by omega) W
    rw [hz1] at this
    exact this
  clear hi0 hz0 hz1 hz2
  go_enter Try.func10, Try.ntmps10
  go_wp2_with fail
  go_loopw [8] (fun i wr => ∃ (k : Nat) (cg ct : Array Value), k ≤ n ∧ i = .int .i64 k ∧ Below w.heap.size w wr ∧ Blk wr w.heap.size 36 cg ∧ Hid (cg.size = (n + 1) * 5) ∧ Blk wr (w.heap.size + 1) 36 ct ∧ Hid (ct.size = n * 5) ∧
      RowsAt cg 5 k (vals (turned n f)) ∧ RowsAt ct 5 k (vals (turned n f))) (fun i _ => n - (intOf i).toNat)
  case atStart =>
    have hT := Blk.new (w.alloc (.cells (madeCells #[Value.int .i64 0, .int .i64 0, .int .i64 0, .int .i64 0, .int .i64 0] ((n + 1) * 5)) 36)) 36 (madeCells #[Value.int .i64 0, .int .i64 0, .int .i64 0, .int .i64 0, .int .i64 0] (n * 5))
    rw [World.size_alloc] at hT
    exact ⟨0, _, _, Nat.zero_le _, rfl, ((Below.refl _ _).alloc (Nat.le_refl _) _).alloc (by simp) _, (Blk.new w 36 _).alloc _, madeCells_size _ _, hT, madeCells_size _ _, fun i hi => by omega, fun i hi => by omega⟩
  case round =>
    obtain ⟨k, cg, ct, hk, rfl, hb, hG, hgs, hT, hts, hrg, hrt⟩ := hrel
    by_cases hlt : k < n
    · obtain ⟨b, off, rfl, hB, hc⟩ := h (by omega)
      have hgs' := hgs.out
      have hts' := hts.out
      have S := rowL_cells (w := wr) (b := b) (x := off + (n - 1 - k) * 5) (f := f) (i := n - 1 - k) (fun j hj => (hb.cell (p := ⟨b, off + (n - 1 - k) * 5 + j, none⟩) hB).trans (hc (n - 1 - k) (by omega) j hj))
      have r3 := (hb.cell (p := ⟨b, off + k * 5 + 3, none⟩) hB).trans (hc k hlt 3 (by omega))
      have r4 := (hb.cell (p := ⟨b, off + k * 5 + 4, none⟩) hB).trans (hc k hlt 4 (by omega))
      have hbs := hb.size
      have HBS := Lib.hid hbs
      have hgl := hG.lt
      have htl := hT.lt
      have RS := Lib.hid S
      have RT := Lib.hid hT
      have RG := Lib.hid hG
      have R3 := Lib.hid r3
      have R4 := Lib.hid r4
      have X1 : k * 5 + 5 ≤ ct.size := by omega
      have X2 : k * 5 + 5 ≤ cg.size := by omega
      have RG0 := Lib.hid hrg
      have RT0 := Lib.hid hrt
      have HTS := Lib.hid hts'
      have HGS := Lib.hid hgs'
      clear hc h hi S hT hG hrg hrt r3 r4 hgs' hts'
      have hk1 : k < n + 1 := by omega
      have X3 : k * 5 + 3 + 1 ≤ (putFrom ct (k * 5) (rowL f (n - 1 - k))).size := by rw [putFrom_size]; omega
      have X4 : k * 5 + 4 + 1 ≤ (putFrom (putFrom ct (k * 5) (rowL f (n - 1 - k))) (k * 5 + 3) [.int .i64 (f k 4)]).size := by rw [putFrom_size, putFrom_size]; omega
      go_wp2_with (first
        | ((with_reducible refine at_op ⟨_, .load 36 (.tmp 32), _, _, _, _⟩ ?_); refine wpList_load_list rfl 36 (.tmp 32) rfl ⟨b, off + (n - 1 - k) * 5, none⟩ rfl (rowL f (n - 1 - k)) RS.out _ Try.underlying36 rfl (by kernel_rfl) ?_)
        | ((with_reducible refine at_op ⟨_, .store 36 (.tmp 34) (.tmp 33), _, _, _, _⟩ ?_); refine wpList_store_blk rfl 36 (.tmp 34) (.tmp 33) rfl (w.heap.size + 1) (k * 5) rfl (rowL f (n - 1 - k)) rfl (rowL_one f _) 36 ct RT.out X1 (by kernel_rfl) ?_; intro w1 hT1 hg1 hs1; have q4 := (cell_gb hg1 (p := ⟨b, off + k * 5 + 4, none⟩) (show b < wr.heap.size by omega) (show b ≠ w.heap.size + 1 by omega)).trans R4.out; have HT1 := Lib.hid hT1; have HS1 := Lib.hid hs1; clear hT1 hs1)
        | ((with_reducible refine at_op ⟨_, .store 3 (.tmp 43) (.tmp 41), _, _, _, _⟩ ?_); refine wpList_store_one rfl 3 (.tmp 43) (.tmp 41) rfl (w.heap.size + 1) (k * 5 + 3) rfl (.int .i64 (f k 4)) rfl (int_cells _ _) rfl 36 _ HT1.out X3 (by kernel_rfl) ?_; intro w2 hT2 hg2 hs2; have q3 := (cell_gb hg2 (p := ⟨b, off + k * 5 + 3, none⟩) (by rw [HS1.out]; show b < wr.heap.size; omega) (show b ≠ w.heap.size + 1 by omega)).trans ((cell_gb hg1 (p := ⟨b, off + k * 5 + 3, none⟩) (show b < wr.heap.size by omega) (show b ≠ w.heap.size + 1 by omega)).trans R3.out); have HT2 := Lib.hid hT2; have HS2 := Lib.hid hs2; clear hT2 hs2 q4)
        | ((with_reducible refine at_op ⟨_, .store 3 (.tmp 52) (.tmp 50), _, _, _, _⟩ ?_); refine wpList_store_one rfl 3 (.tmp 52) (.tmp 50) rfl (w.heap.size + 1) (k * 5 + 4) rfl (.int .i64 (f k 3)) rfl (int_cells _ _) rfl 36 _ HT2.out X4 (by kernel_rfl) ?_; intro w3 hT3 hg3 hs3; have HT3 : Blk w3 (w.heap.size + 1) 36 (mixed ct n f k) := hT3; have hM := mixed_rows RT0.out HTS.out hlt; have hTc := rowL_cells (w := w3) (b := w.heap.size + 1) (x := k * 5) (f := turned n f) (i := k) (fun j hj => by rw [HT3.cell]; exact hM k (by omega) j hj); have RTc := Lib.hid hTc; have HM := Lib.hid hM; have HTT := Lib.hid HT3; have HS3 := Lib.hid hs3; have HG3 := Lib.hid (((RG.out.gb hg1 (by omega)).gb hg2 (by omega)).gb hg3 (by omega)); clear hT3 HT3 hTc hM hs3 q3 X3 X4 X1 HT1 HT2 RS R3 R4 RT RT0 hbs htl)
        | ((with_reducible refine at_op ⟨_, .load 36 (.tmp 57), _, _, _, _⟩ ?_); refine wpList_load_list rfl 36 (.tmp 57) rfl ⟨w.heap.size + 1, k * 5, none⟩ rfl (rowL (turned n f) k) RTc.out _ Try.underlying36 rfl (by kernel_rfl) ?_; clear RTc)
        | ((with_reducible refine at_op ⟨_, .store 36 (.tmp 59) (.tmp 58), _, _, _, _⟩ ?_); refine wpList_store_blk rfl 36 (.tmp 59) (.tmp 58) rfl w.heap.size (k * 5) rfl (rowL (turned n f) k) rfl (rowL_one _ _) 36 cg HG3.out X2 (by kernel_rfl) ?_; intro w4 hG4 hg4 hs4; have HG4 := Lib.hid hG4; have HS4 := Lib.hid hs4; clear hG4 hs4))
      go_roundw
      case rel => exact ⟨k + 1, _, _, by omega, by go_num, below_gb (below_gb (below_gb (below_gb hb hg1 HBS.out (by omega)) hg2 (by rw [HS1.out]; exact HBS.out) (by omega)) hg3 (by rw [HS2.out, HS1.out]; exact HBS.out) (by omega)) hg4 (by rw [HS3.out, HS2.out, HS1.out]; exact HBS.out) (by omega), HG4.out, by rw [putFrom_size]; exact HGS.out, HTT.out.gb hg4 (by omega), by rw [mixed_size]; exact HTS.out, RG0.out.put HGS.out (by omega) _ rfl (rowL_get _ _), HM.out⟩
      case measure => simp [intOf]; omega
    · obtain rfl : k = n := by omega
      have hgs' := hgs.out
      have hbs := hb.size
      have hgl := hG.lt
      have X5 : k * 5 + 5 ≤ cg.size := by omega
      have HBS := Lib.hid hbs
      have HGL := Lib.hid hgl
      have RT := Lib.hid hT
      have RG := Lib.hid hG
      have RG0 := Lib.hid hrg
      have RT0 := Lib.hid hrt
      have HTS := hts
      have HGS := hgs
      have HH := Lib.hid h
      have HI := Lib.hid hi
      clear hT hG hrg hrt hgs' hgs hts h hi hbs hgl hlt hk
      go_wp2_with (first
        | ((with_reducible refine at_op ⟨_, .store 36 (.tmp 63) (.tmp 62), _, _, _, _⟩ ?_); refine wpList_store_blk rfl 36 (.tmp 63) (.tmp 62) rfl w.heap.size (k * 5) rfl lastL rfl lastL_one 36 cg RG.out X5 (by kernel_rfl) ?_; clear X5; intro w1 hG1 hg1 hs1; have HG1 := Lib.hid hG1; have HS1 := Lib.hid hs1; clear hG1 hs1))
      have hR1 := rows_last lastL RG0.out
      have hgl1 := HG1.out.lt
      refine (due_any _ _ _ (turned k f) _ _ (stats_of HG1.out hR1) (turned_ints HI.out) (by omega)).mono ?_
      rintro e w2 ⟨rfl, hb2⟩
      have HR1 := Lib.hid hR1
      have HL : Hid (∀ j v, lastL[j]? = some v → (putFrom cg (k * 5) lastL)[k * 5 + j]? = some v) := fun j v hv => by
        have hj := (List.getElem?_eq_some_iff.1 hv).1
        rw [putFrom_in lastL cg (k * 5) j hj (by have := HGS.out; show k * 5 + 5 ≤ cg.size; omega)]
        exact hv
      have HZ : Hid ((putFrom cg (k * 5) lastL).size = (k + 1) * 5) := by show (putFrom cg (k * 5) lastL).size = (k + 1) * 5; rw [putFrom_size]; exact HGS.out
      have HG2 := Lib.hid (HG1.out.below hb2 HG1.out.lt)
      have HT2 := Lib.hid ((RT.out.gb hg1 (by omega)).below hb2 (by rw [HS1.out]; exact RT.out.lt))
      have HB2 : Hid (Below w.heap.size w w2) := (below_gb hb hg1 HBS.out (Nat.le_refl _)).trans (hb2.mono (by rw [HS1.out]; exact HBS.out))
      generalize hcc : putFrom cg (k * 5) lastL = cl at *
      have HCC := Lib.hid hcc
      clear hR1 hgl1 hb2 hb hg1 HG1 HS1 RG RT HGS RG0 hcc HGL HBS
      go_wp2_with fail
      obtain ⟨wo, rfl⟩ : ∃ wo : World, wo = wr := ⟨_, rfl⟩
      go_loopw [10] (fun i wr2 => ∃ (m : Nat) (cg2 : Array Value), m ≤ k ∧ i = .int .i64 m ∧ Hid (Below w.heap.size w wr2) ∧ Hid (Blk wr2 w.heap.size 36 cg2) ∧ Hid (cg2.size = (k + 1) * 5) ∧ Hid (Blk wr2 (w.heap.size + 1) 36 ct) ∧
          Hid (RowsAt cg2 5 m (vals f)) ∧ Hid (∀ j v, lastL[j]? = some v → cg2[k * 5 + j]? = some v)) (fun i _ => k - (intOf i).toNat)
      case atStart => exact ⟨0, cl, Nat.zero_le _, rfl, HB2, HG2, HZ, HT2, fun i hi => by omega, HL⟩
      case round =>
        obtain ⟨m, cg2, hm, rfl, HB, HG, HZ2, HT, HR, HL2⟩ := hrel
        by_cases hlt : m < k
        · obtain ⟨b, off, rfl, hB, hc⟩ := HH.out (by omega)
          have RS := Lib.hid (rowL_cells (w := wr) (b := b) (x := off + m * 5) (f := f) (i := m) (fun j hj => (HB.out.cell (p := ⟨b, off + m * 5 + j, none⟩) hB).trans (hc m hlt j hj)))
          have X6 : m * 5 + 5 ≤ cg2.size := by have := HZ2.out; omega
          have hk1 : m < k + 1 := by omega
          clear hc
          go_wp2_with (first
            | ((with_reducible refine at_op ⟨_, .load 36 (.tmp 78), _, _, _, _⟩ ?_); refine wpList_load_list rfl 36 (.tmp 78) rfl ⟨b, off + m * 5, none⟩ rfl (rowL f m) RS.out _ Try.underlying36 rfl (by kernel_rfl) ?_; clear RS)
            | ((with_reducible refine at_op ⟨_, .store 36 (.tmp 80) (.tmp 79), _, _, _, _⟩ ?_); refine wpList_store_blk rfl 36 (.tmp 80) (.tmp 79) rfl w.heap.size (m * 5) rfl (rowL f m) rfl (rowL_one _ _) 36 cg2 HG.out X6 (by kernel_rfl) ?_; clear X6; intro w4 hG4 hg4 hs4; have HG4 := Lib.hid hG4; have HS4 := Lib.hid hs4; clear hG4 hs4))
          have HL3 : Hid (∀ j v, lastL[j]? = some v → (putFrom cg2 (m * 5) (rowL f m))[k * 5 + j]? = some v) := fun j v hv => by
            rw [putFrom_out _ _ _ _ (Or.inr (by show m * 5 + 5 ≤ k * 5 + j; omega))]
            exact HL2.out j v hv
          go_roundw
          case rel => exact ⟨m + 1, _, by omega, by go_num, below_gb HB.out hg4 HB.out.size (Nat.le_refl _), HG4.out, by show (putFrom cg2 (m * 5) (rowL f m)).size = (k + 1) * 5; rw [putFrom_size]; exact HZ2.out, HT.out.gb hg4 (by omega), HR.out.put HZ2.out (by omega) _ rfl (rowL_get _ _), HL3.out⟩
          case measure => simp [intOf]; omega
        · obtain rfl : m = k := by omega
          go_wp2_with fail
          refine (due_any _ _ _ f _ _ (stats_of HG.out HR.out) HI.out (by omega)).mono ?_
          rintro e w5 ⟨rfl, hb5⟩
          have HB5 : Hid (Below w.heap.size w w5) := HB.out.trans (hb5.mono HB.out.size)
          have HG5 := Lib.hid (HG.out.below hb5 HG.out.lt)
          have HT5 := Lib.hid (HT.out.below hb5 HT.out.lt)
          clear hb5 HB HG HT HB2 HG2 HZ HT2 HL HR1 HCC
          go_wp2_with fail
          obtain ⟨wp, rfl⟩ : ∃ wp : World, wp = wr := ⟨_, rfl⟩
          go_loopw [12] (fun i wr3 => ∃ (q : Nat), q ≤ m ∧ i = .int .i64 q ∧ Hid (Below w.heap.size w wr3) ∧ Hid (Blk wr3 w.heap.size 36 cg2) ∧ Hid (Blk wr3 (w.heap.size + 1) 36 ct)) (fun i _ => m - (intOf i).toNat)
          case atStart => exact ⟨0, Nat.zero_le _, rfl, HB5, HG5, HT5⟩
          case round =>
            obtain ⟨q, hq, rfl, HB6, HG6, HT6⟩ := hrel
            by_cases hlt : q < m
            · obtain ⟨b, off, rfl, hB, hc⟩ := HH.out (by omega)
              have s0 := (HB6.out.cell (p := ⟨b, off + q * 5 + 0, none⟩) hB).trans (hc q (by omega) 0 (by omega))
              have s1 := (HB6.out.cell (p := ⟨b, off + q * 5 + 1, none⟩) hB).trans (hc q (by omega) 1 (by omega))
              have s2 := (HB6.out.cell (p := ⟨b, off + q * 5 + 2, none⟩) hB).trans (hc q (by omega) 2 (by omega))
              have s3 := (HB6.out.cell (p := ⟨b, off + q * 5 + 3, none⟩) hB).trans (hc q (by omega) 3 (by omega))
              have s4 := (HB6.out.cell (p := ⟨b, off + q * 5 + 4, none⟩) hB).trans (hc q (by omega) 4 (by omega))
              have g0 : wr.cell? ⟨w.heap.size, q * 5 + 0, none⟩ = some (.int .i64 (f q 0)) := by rw [HG6.out.cell]; exact HR.out q (by omega) 0 (by omega)
              have g1 : wr.cell? ⟨w.heap.size, q * 5 + 1, none⟩ = some (.int .i64 (f q 1)) := by rw [HG6.out.cell]; exact HR.out q (by omega) 1 (by omega)
              have g2 : wr.cell? ⟨w.heap.size, q * 5 + 2, none⟩ = some (.int .i64 (f q 2)) := by rw [HG6.out.cell]; exact HR.out q (by omega) 2 (by omega)
              have g3 : wr.cell? ⟨w.heap.size, q * 5 + 3, none⟩ = some (.int .i64 (f q 3)) := by rw [HG6.out.cell]; exact HR.out q (by omega) 3 (by omega)
              have g4 : wr.cell? ⟨w.heap.size, q * 5 + 4, none⟩ = some (.int .i64 (f q 4)) := by rw [HG6.out.cell]; exact HR.out q (by omega) 4 (by omega)
              rw [Nat.add_zero] at s0 g0
              have hk1 : q < m + 1 := by omega
              clear hc
              go_wp2_with fail
              go_region
              all_goals (try go_wp2_with fail)
              all_goals exact ⟨⟨q + 1, by omega, by go_num, HB6.out.drew, HG6.out, HT6.out⟩, by simp [intOf]; omega⟩
            · obtain rfl : q = m := by omega
              have hl := HL2.out
              have g0 : wr.cell? ⟨w.heap.size, q * 5, none⟩ = some (.int .i64 (-77)) := by rw [HG6.out.cell]; exact hl 0 _ rfl
              have g1 : wr.cell? ⟨w.heap.size, q * 5 + 1, none⟩ = some (.int .i64 0) := by rw [HG6.out.cell]; exact hl 1 _ rfl
              have g2 : wr.cell? ⟨w.heap.size, q * 5 + 2, none⟩ = some (.int .i64 0) := by rw [HG6.out.cell]; exact hl 2 _ rfl
              have g3 : wr.cell? ⟨w.heap.size, q * 5 + 3, none⟩ = some (.int .i64 0) := by rw [HG6.out.cell]; exact hl 3 _ rfl
              have g4 : wr.cell? ⟨w.heap.size, q * 5 + 4, none⟩ = some (.int .i64 0) := by rw [HG6.out.cell]; exact hl 4 _ rfl
              clear hl
              go_wp2_with fail
              refine (rdue_any _ _ _ (turned q f) _ wr.heap.size _ (stats_of HT6.out RT0.out) (turned_ints HI.out) (by omega)).mono ?_
              rintro e w7 ⟨rfl, rfl⟩
              go_wp2_with fail
              refine (rdue_any _ _ _ f _ w.heap.size _ (stats_below HH.out HB6.out) HI.out (by omega)).mono ?_
              rintro e w8 ⟨rfl, rfl⟩
              go_wp2_with fail
              go_ret
              exact ⟨rfl, HB6.out⟩
end Go.Proofs.Ytjlfpcgopenkmaa.due
