/-
  Rows of records in blocks of the law's own; spare, sameRecords, kept and others walked.
  Conditions: the rows lie below the heap's end; at most 1048576 records each.
-/
import Derived.Test.YtjlfpcgopenkmaaCpe
namespace Go.Proofs.Ytjlfpcgopenkmaa.cp
open Go.RowKit

/-- a block's cells hold n places for records, and these records at its head -/
def Rows (cs : Array Value) (n : Nat) (l : List Rc) : Prop := cs.size = n * 7 ∧ l.length ≤ n ∧ ∀ (i : Nat) (r : Rc), l[i]? = some r → ∀ (j : Nat) (v : Value), (RcL r)[j]? = some v → cs[i * 7 + j]? = some v
theorem Rows.le {cs : Array Value} {n : Nat} {l : List Rc} (h : Rows cs n l) {i : Nat} (hi : i < n) : i * 7 + 7 ≤ cs.size := by have := h.1; omega
theorem Rows.nil {cs : Array Value} {n : Nat} (h : cs.size = n * 7) : Rows cs n [] := ⟨h, Nat.zero_le _, fun i r hi => by simp at hi⟩
theorem Rows.snoc {cs : Array Value} {n : Nat} {l : List Rc} (h : Rows cs n l) (hl : l.length < n) (r : Rc) : Rows (putFrom cs (l.length * 7) (RcL r)) n (l ++ [r]) := by
  refine ⟨by rw [putFrom_size]; exact h.1, by rw [List.length_append]; show l.length + 1 ≤ n; omega, fun i q hi j v hv => ?_⟩
  have hj : j < 7 := (List.getElem?_eq_some_iff.1 hv).1
  by_cases e : i = l.length
  · subst e
    have hq : q = r := by simpa using hi.symm
    subst hq
    rw [putFrom_in (RcL q) cs (l.length * 7) j hj (h.le hl)]
    exact hv
  · have hil : i < l.length := by
      have := (List.getElem?_eq_some_iff.1 hi).1
      rw [List.length_append] at this
      have h1 : i < l.length + 1 := this
      omega
    rw [putFrom_out (RcL r) cs _ _ (.inl (by omega))]
    exact h.2.2 i q (by rw [List.getElem?_append_left hil] at hi; exact hi) j v hv
theorem Rows.over {cs : Array Value} {n : Nat} {l : List Rc} (h : Rows cs n l) {i : Nat} (hi : i < l.length) (r : Rc) : Rows (putFrom cs (i * 7) (RcL r)) n (l.set i r) := by
  have hin : i < n := by have := h.2.1; omega
  refine ⟨by rw [putFrom_size]; exact h.1, by rw [List.length_set]; exact h.2.1, fun k q hk j v hv => ?_⟩
  have hj : j < 7 := (List.getElem?_eq_some_iff.1 hv).1
  by_cases e : k = i
  · subst e
    have hq : q = r := by rw [List.getElem?_set_self hi] at hk; exact (Option.some.inj hk).symm
    subst hq
    rw [putFrom_in (RcL q) cs (k * 7) j hj (h.le hin)]
    exact hv
  · have e' : i ≠ k := fun h => e h.symm
    rw [List.getElem?_set_ne e'] at hk
    rw [putFrom_out (RcL r) cs _ _ (by show k * 7 + j < i * 7 ∨ i * 7 + 7 ≤ k * 7 + j; omega)]
    exact h.2.2 k q hk j v hv
theorem Rows.take {cs : Array Value} {n : Nat} {l : List Rc} (h : Rows cs n l) (k : Nat) : Rows cs n (l.take k) :=
  ⟨h.1, by rw [List.length_take]; have := h.2.1; omega, fun i r hi => h.2.2 i r (by rw [List.getElem?_take] at hi; split at hi; exact hi; cases hi)⟩
/-- such a block, read as a row of records -/
theorem Rows.recs {w : World} {g n B : Nat} {cs : Array Value} {l : List Rc} (hb : Blk w g 33 cs) (h : Rows cs n l) (hB : g < B) : Recs w B (some ⟨g, 0, none⟩) l := fun _ =>
  ⟨g, 0, rfl, hB, fun i r hi j v hv => by rw [hb.cell]; simpa using h.2.2 i r hi j v hv⟩
/-- what the code owns is such a slice -/
theorem owns_slice {w : World} {base : Nat} {v : Value} {l : List Rc} (h : w.ownsRow base 33 7 v l.length (flat l)) : ∃ A c, v = .slice A l.length c ∧ Recs w w.heap.size A l := by
  rcases h.2 with ⟨e, h0⟩ | ⟨g, cap, cur, e, _⟩
  · subst e
    rw [h0]
    exact ⟨none, 0, rfl, fun hn => absurd (List.length_eq_zero_iff.1 h0) hn⟩
  · subst e
    exact ⟨_, _, rfl, (Recs.of_owns h).1⟩
theorem fill_set (x y : List Rc) (j : Nat) (hx : j < x.length) (hy : j < y.length) : (x.take j ++ y.drop j).set j x[j] = x.take (j + 1) ++ y.drop (j + 1) := by
  have hl : (x.take j).length = j := by rw [List.length_take]; omega
  rw [List.set_append_right _ _ (by omega), hl, Nat.sub_self, List.drop_eq_getElem_cons hy, List.set_cons_zero, List.take_succ_eq_append_getElem hx, List.append_assoc]
  rfl

def r77 : Rc := ⟨77, 0, 0, 0, 0, ByteArray.empty, ByteArray.empty⟩
theorem take_len {l : List Rc} {k : Nat} (h : k ≤ l.length) : (l.take k).length = k := by rw [List.length_take]; omega

set_option maxHeartbeats 2000000 in
theorem spare_any (l : List Rc) (A : Option Addr) (c : Nat) (w : World) (hr : Recs w w.heap.size A l) (hn : l.length ≤ 1048576) :
    Calls Try.prog 12 #[.slice A l.length c] w fun e w' => e = .returned (.slice (some ⟨w.heap.size, 0, none⟩) (l.length + 1) (l.length + 1)) ∧ Below w.heap.size w w' ∧ ∃ cs, Blk w' w.heap.size 33 cs ∧ Rows cs (l.length + 1) (l ++ [r77]) := by
  obtain ⟨i0, hi0, hz0, hz1, hz2⟩ := info_parts zero33
  have hmk : ∀ W : World, (Instr.makeSlice 26 (.int .i64 ((l.length : Int) + 1)) (.int .i64 ((l.length : Int) + 1))).run Try.prog W = .ok (.slice (some ⟨W.heap.size, 0, none⟩) (l.length + 1) (l.length + 1)) (W.alloc (.cells (madeCells rc0 ((l.length + 1) * 7)) 33)) := fun W => by
    have := run_make_rowN (P := Try.prog) 26 33 i0 _ Try.underlying26 hi0 hz0 .i64 .i64 (l.length + 1) (l.length + 1) (Nat.le_refl _) (by rw [hz2]; omega) (by omega) W
    rw [hz1] at this
    exact this
  have HR := Lib.hid hr
  clear hi0 hz0 hz1 hz2 hr
  go_enter Try.func12, Try.ntmps12
  go_wp2_with fail
  go_loopw [4] (fun i wr => ∃ (k : Nat) (cs : Array Value), k ≤ l.length ∧ i = .int .i64 k ∧ Hid (Below w.heap.size w wr) ∧ Hid (Blk wr w.heap.size 33 cs) ∧ Hid (Rows cs (l.length + 1) (l.take k))) (fun i _ => l.length - (intOf i).toNat)
  case atStart => exact ⟨0, _, Nat.zero_le _, rfl, (Below.refl _ _).alloc (Nat.le_refl _) _, Blk.new _ _ _, Rows.nil (madeCells_size _ _)⟩
  case round =>
    obtain ⟨k, cs, hk, rfl, HB, HT, HRW⟩ := hrel
    by_cases hlt : k < l.length
    · obtain ⟨b, off, rfl, hb, hcl⟩ := HR.out.at_ hlt
      have RS := Lib.hid (fun (i : Nat) (v : Value) (h : (RcL l[k])[i]? = some v) => (HB.out.cell (p := (⟨b, off + k * 7, none⟩ : Addr).add i) (by rw [add_flat]; exact hb)).trans (hcl i v h))
      obtain ⟨r, hrj⟩ : ∃ r, l[k] = r := ⟨_, rfl⟩
      rw [hrj] at RS
      have HJ := Lib.hid hrj
      have X1 : k * 7 + 7 ≤ cs.size := HRW.out.le (by omega)
      have hk1 : k < l.length + 1 := by omega
      clear hcl hrj hb
      go_wp2_with (first
        | ((with_reducible refine at_op ⟨_, .load 33 (.tmp 19), _, _, _, _⟩ ?_); refine wpList_load_list rfl 33 (.tmp 19) rfl ⟨b, off + k * 7, none⟩ rfl (RcL r) RS.out _ Try.underlying33 rfl (by kernel_rfl) ?_)
        | ((with_reducible refine at_op ⟨_, .store 33 (.tmp 21) (.tmp 20), _, _, _, _⟩ ?_); refine wpList_store_blk rfl 33 (.tmp 21) (.tmp 20) rfl w.heap.size (k * 7) rfl (RcL r) rfl (RcL_one r) 33 cs HT.out X1 (by kernel_rfl) ?_; clear X1; intro w1 hT1 hg1 hs1; have HT1 := Lib.hid hT1; have HG1 := Lib.hid hg1; clear hT1 hg1 hs1)
        | fail)
      go_roundw
      case rel => exact ⟨k + 1, _, by omega, by go_num, below_gb HB.out HG1.out HB.out.size (Nat.le_refl _), HT1, Lib.hid (by
        have h := HRW.out.snoc (by rw [take_len hk]; omega) r
        rw [take_len hk] at h
        rw [take_snoc' _ _ hlt, HJ.out]
        exact h)⟩
      case measure => simp [intOf]; omega
    · have hkl : k = l.length := by omega
      have X1 : l.length * 7 + 7 ≤ cs.size := HRW.out.le (by omega)
      have HRW2 : Hid (Rows cs (l.length + 1) l) := Lib.hid (by have := HRW.out; rw [hkl, List.take_length] at this; exact this)
      have hk1 : l.length < l.length + 1 := by omega
      clear hkl HRW
      go_wp2_with (first
        | ((with_reducible refine at_op ⟨_, .store 33 (.tmp 26) (.tmp 25), _, _, _, _⟩ ?_); refine wpList_store_blk rfl 33 (.tmp 26) (.tmp 25) rfl w.heap.size (l.length * 7) rfl (RcL r77) rfl (RcL_one r77) 33 cs HT.out X1 (by kernel_rfl) ?_; clear X1; intro w1 hT1 hg1 hs1; have HT1 := Lib.hid hT1; have HG1 := Lib.hid hg1; clear hT1 hg1 hs1)
        | fail)
      go_ret
      exact ⟨rfl, below_gb HB.out HG1.out HB.out.size (Nat.le_refl _), _, HT1.out, HRW2.out.snoc (Nat.lt_succ_self _) r77⟩
end Go.Proofs.Ytjlfpcgopenkmaa.cp
