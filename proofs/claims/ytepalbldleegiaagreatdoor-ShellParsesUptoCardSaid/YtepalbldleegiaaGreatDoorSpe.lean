/-
  The program's text out of the parts of a line: walked.
  Conditions: parts of at most 4096 bytes.
-/
import Derived.Test.YtepalbldleegiaaGreatDoorSpd
namespace Go.Proofs.YtepalbldleegiaaGreatDoor.sh
open Go.RowKit
open Go.Lib (itoa decDigits byteCells atoiAll)

theorem S_slice (l : Bs) (i j : Nat) (hij : i ≤ j) (hj : j ≤ l.length) (W : World) : (Instr.slice 9 (.string (S l)) (some (.int .i64 (i : Int))) (some (.int .i64 (j : Int))) none).run Tryz.prog W = .ok (.string (S ((l.take j).drop i))) W := by
  rw [run_slice_string_if _ _ _ _ _ _ _ Tryz.underlying9, if_pos (by rw [S_size]; omega), if_pos (by omega)]
  have e : (S l).extract ((i : Int)).toNat ((j : Int)).toNat = S ((l.take j).drop i) := by
    apply Go.WideShapes.bytes_inj
    rw [Int.toNat_natCast, Int.toNat_natCast]
    rw [ByteArray.data_extract]
    simp only [S, Array.toList_extract, List.extract_eq_take_drop]
    rw [List.drop_take]
  rw [e]
theorem S_from (l : Bs) (i : Nat) (hi : i ≤ l.length) (W : World) : (Instr.slice 9 (.string (S l)) (some (.int .i64 (i : Int))) none none).run Tryz.prog W = .ok (.string (S (l.drop i))) W := by
  rw [run_slice_string_from_if _ _ _ _ _ Tryz.underlying9, if_pos (by rw [S_size]; omega)]
  have e : (S l).extract ((i : Int)).toNat (S l).size = S (l.drop i) := by
    apply Go.WideShapes.bytes_inj
    rw [Int.toNat_natCast, S_size]
    rw [ByteArray.data_extract]
    simp only [S, Array.toList_extract, List.extract_eq_take_drop]
    rw [List.take_of_length_le (by rw [List.length_drop]; omega)]
  rw [e]
theorem pre34 (l : Bs) : Lib.hasPrefix l [34] = decide (l.head? = some 34) := by
  cases l with
  | nil => rfl
  | cons c l =>
    simp only [Lib.hasPrefix, List.isPrefixOf, List.head?_cons, Option.some.injEq, Bool.and_true]
    rw [Bool.eq_iff_iff, beq_iff_eq, decide_eq_true_eq]
    exact eq_comm
theorem suf34 (l : Bs) : Lib.hasSuffix l [34] = decide (l.getLast? = some 34) := by
  rw [Lib.hasSuffix, Bool.eq_iff_iff, List.isSuffixOf_iff_suffix, decide_eq_true_eq, List.getLast?_eq_some_iff]
  constructor
  · rintro ⟨t, ht⟩; exact ⟨t, ht.symm⟩
  · rintro ⟨t, ht⟩; exact ⟨t, ht.symm⟩
theorem pre92 (l : Bs) : Lib.hasPrefix l [92, 120] = decide (l.take 2 = [92, 120]) := by
  rw [Lib.hasPrefix, Bool.eq_iff_iff, List.isPrefixOf_iff_prefix, decide_eq_true_eq, List.prefix_iff_eq_take]
  exact eq_comm
theorem hasPre_any (l p : Bs) (w : World) : Calls Tryz.prog 116 #[.string (S l), .string ⟨p.toArray⟩] w fun e w' => e = .returned (.bool (Lib.hasPrefix l p)) ∧ w' = w := by
  refine (Tryz.strings_HasPrefix (S l) ⟨p.toArray⟩ w).mono ?_
  rintro e w' ⟨rfl, h⟩
  exact ⟨by simp [S], h⟩
theorem hasSuf_any (l p : Bs) (hl : l.length ≤ 4096) (w : World) : Calls Tryz.prog 117 #[.string (S l), .string ⟨p.toArray⟩] w fun e w' => e = .returned (.bool (Lib.hasSuffix l p)) ∧ w' = w := by
  refine (Tryz.strings_HasSuffix (S l) ⟨p.toArray⟩ w (by rw [S_size]; omega)).mono ?_
  rintro e w' ⟨rfl, h⟩
  exact ⟨by simp [S], h⟩

theorem copyCheck_far (B b : Nat) (bs : List Value) (w : World) (h : Lib.IsBuilder 81 5 B b bs w) :
    Calls Tryz.prog 83 #[.pointer (some ⟨b, 0, none⟩)] w fun e w' => e = .returned (.tuple #[]) ∧ Lib.BuilderAt 81 5 B b (.pointer (some ⟨b, 0, none⟩)) bs w' ∧ Below B w w' ∧ w.grownBy w' (some b) := by
  rcases h with h | h
  · refine (copyCheck_fresh b w h.cell0 h.shape h.frozen0).mono ?_
    rintro e w' ⟨rfl, rfl⟩
    exact ⟨rfl, h.used _, (Below.refl B w).setCell (p := ⟨b, 0, none⟩) h.1 _, gb_setC _ _ _ _⟩
  · refine (copyCheck_used b w h.cell0).mono ?_
    rintro e w' ⟨rfl, rfl⟩
    exact ⟨rfl, h, Below.refl B _, gb_refl _ _⟩

set_option maxHeartbeats 2000000 in
set_option maxRecDepth 100000 in
theorem writeRow_any (B b : Nat) (bs : List Value) (g n cap : Nat) (news : List Value) (w : World) (h : Lib.IsBuilder 81 5 B b bs w) (hn : news.length = n) (hcl : ∀ (j : Nat) (u : Value), news[j]? = some u → w.cell? ⟨g, j, none⟩ = some u) (hg : g < w.heap.size) (hgb : g ≠ b) (h1c : ∀ u ∈ news, u.oneCell' = true) (hlen : bs.length + n ≤ 140737488355328) (hBw : B ≤ w.heap.size) :
    Calls Tryz.prog 118 #[.pointer (some ⟨b, 0, none⟩), .slice (some ⟨g, 0, none⟩) n cap] w fun e w' => e = .returned (.tuple #[.int .i64 n, .nilIface]) ∧ (Lib.BuilderAt 81 5 B b (.pointer (some ⟨b, 0, none⟩)) (bs ++ news) w' ∧ Below B w w') := by
  obtain ⟨i0, hi, hz0, hz1, hz2⟩ := info_parts infoByte
  go_enter Tryz.func118, Tryz.ntmps118
  go_wp2_with fail
  refine (copyCheck_far B b bs _ h).mono ?_
  rintro e w1 ⟨rfl, h1, hb1, hg1⟩
  obtain ⟨hB, v, hbk, hown, hne⟩ := h1
  have c0 : w1.cell? ⟨b, 0, none⟩ = some (.pointer (some ⟨b, 0, none⟩)) := by rw [Lib.cell_of_heap hbk]; rfl
  have c1 : w1.cell? ⟨b, 1, none⟩ = some v := by rw [Lib.cell_of_heap hbk]; rfl
  have hcl1 : ∀ (j : Nat) (u : Value), news[j]? = some u → w1.cell? ((⟨g, 0, none⟩ : Addr).add j) = some u := fun j u hu => by
    rw [add_flat, Nat.zero_add, gb_cell hg1 (p := ⟨g, j, none⟩) hg hgb]
    exact hcl j u hu
  clear h hcl
  go_wp2_with (at_builtin; refine wpList_append_own _ rfl _ _ 25 rfl B 5 i0 (.int .u8 0) 1 1 Tryz.underlying25 hi hz0 hz1 hz2 rfl (by decide) _ _ _ rfl hown ⟨g, 0, none⟩ n cap news rfl (by rw [hn, Nat.mul_one]) hcl1 h1c ?c3 ?c4 ?c5 ?_)
  case c3 => unfold maxLen; omega
  case c4 => omega
  case c5 => have := hb1.size; omega
  intro v' w2 hown' hgrow _
  have hlt : b < w1.heap.size := by
    rcases Nat.lt_or_ge b w1.heap.size with h' | h'
    · exact h'
    · simp [Array.getElem?_eq_none h'] at hbk
  have hb2 : w2.heap[b]? = some (.cells #[.pointer (some ⟨b, 0, none⟩), v] 81 (0, 0)) := by
    rw [hgrow.block b hlt (fun e => hne e.symm)]
    exact hbk
  have d0 : w2.cell? ⟨b, 0, none⟩ = some (.pointer (some ⟨b, 0, none⟩)) := by rw [Lib.cell_of_heap hb2]; rfl
  have d1 : w2.cell? ⟨b, 1, none⟩ = some v := by rw [Lib.cell_of_heap hb2]; rfl
  have f1 : w2.frozen? ⟨b, 1, none⟩ = false := Lib.frozen_of_heap hb2 1
  obtain ⟨ao, n', cap', rfl⟩ : ∃ ao n' cap, v' = .slice ao n' cap := by
    rcases hown'.2 with ⟨hv, _⟩ | ⟨g, cap, cur, hv, _⟩
    · exact ⟨_, _, _, hv⟩
    · exact ⟨_, _, _, hv⟩
  go_wp2_with fail
  go_ret2
  refine ⟨rfl, ?_, ?_⟩
  · exact Lib.BuilderAt.put (T := 81) (e := 5) hB hb2 (bs' := bs ++ news) (by rw [List.length_append, hn]; exact hown') (by decide)
  · exact (hb1.grown hgrow (by have := hb1.size; omega) (fun k hk => (hown.lt k hk).1)).setCell (p := ⟨b, 1, none⟩) hB _
end Go.Proofs.YtepalbldleegiaaGreatDoor.sh
