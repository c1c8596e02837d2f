/-
  The program's number and digits of bytes walked.
  Conditions: the table of powers of ten is as it was laid; a number is an int64.
-/
import Derived.Test.YtepalbldleegiaaGreatDoorSwd
import Derived.Test.YtepalbldleegiaaGreatDoorSbu
import Derived.Test.YtepalbldleegiaaGreatDoorShelf
import Derived.Lib.AppendIntMem
namespace Go.Proofs.YtepalbldleegiaaGreatDoor.sh
open Go.RowKit
open Go.Lib (itoa decDigits byteCells)

def Tab (w : World) : Prop := Lib.TabIs Tryz.prog w "internal/strconv.uint64pow10" .u64 Lib.pow10Tab
theorem cells_snoc (l : Bs) (c : UInt8) : byteCells (l ++ [c]) = byteCells l ++ [.int .u8 (c.toNat : Int)] := by simp [byteCells]
theorem dgs_idx (i : Int) (h0 : 0 ≤ i) (h1 : i < 16) (W : World) : (Instr.index 9 (.string { data := #[48, 49, 50, 51, 52, 53, 54, 55, 56, 57, 97, 98, 99, 100, 101, 102] }) (.int .u8 i)).run Tryz.prog W = .ok (.int .u8 ((hexd i.toNat).toNat : Int)) W := by
  rw [run_index_string _ _ _ _ _ Tryz.underlying9, dif_pos ⟨h0, h1⟩]
  have h : ∀ k : Fin 16, (dgs[k.val]'(k.isLt)).toNat = (hexd k.val).toNat := by decide
  have := h ⟨i.toNat, by omega⟩
  rw [show ((hexd i.toNat).toNat : Int) = (((dgs[i.toNat]'(by show i.toNat < 16; omega)).toNat : Nat) : Int) by rw [← this]; rfl]
  rfl
theorem builder_new (w : World) (B : Nat) (hB : B ≤ w.heap.size) : Lib.IsBuilder 81 5 B w.heap.size (byteCells []) (w.alloc (.cells #[.pointer none, .slice none 0 0] 81)) :=
  .inl ⟨hB, .slice none 0 0, heap_alloc_new w _, World.ownsRow_nil _ _ _ _, by simp [Value.ownBlock]⟩

theorem number_any (n : Int) (h0 : -9223372036854775808 ≤ n) (h1 : n ≤ 9223372036854775807) (w : World) (ht : Tab w) :
    Calls Tryz.prog 33 #[.int .i64 n] w fun e w' => e = .returned (.string (S (itoa n))) ∧ Below w.heap.size w w' := by
  go_enter Tryz.func33, Tryz.ntmps33
  go_wp2_with fail
  refine (Tryz.strconv_FormatInt_10 n h0 h1 w ht).mono ?_
  rintro e w1 ⟨rfl, k, os, rfl⟩
  go_wp2_with fail
  go_ret
  exact ⟨rfl, Lib.below_grow _ _ (Nat.le_refl _) k os⟩

set_option maxRecDepth 100000 in
set_option maxHeartbeats 4000000 in
theorem digitsOf_any (l : Bs) (A : Option Addr) (c : Nat) (w : World) (hn : l.length ≤ 1099511627776) (hc : l ≠ [] → ∃ b off, A = some ⟨b, off, none⟩ ∧ b < w.heap.size ∧ ∀ (i : Nat) (x : UInt8), l[i]? = some x → w.cell? ⟨b, off + i, none⟩ = some (.int .u8 (x.toNat : Int))) :
    Calls Tryz.prog 77 #[.slice A l.length c] w fun e w' => e = .returned (.string (S (l.flatMap hexL))) ∧ Below w.heap.size w w' := by
  have HC := Lib.hid hc
  clear hc
  go_enter Tryz.func77, Tryz.ntmps77
  go_wp2_with fail
  go_loopw [8] (fun i wr => ∃ (j : Nat), j ≤ l.length ∧ i = .int .i64 j ∧ Hid (Lib.IsBuilder 81 5 w.heap.size w.heap.size (byteCells ((l.take j).flatMap hexL)) wr) ∧ Hid (Below w.heap.size w wr)) (fun i _ => l.length - (intOf i).toNat)
  case atStart => exact ⟨0, Nat.zero_le _, rfl, builder_new w _ (Nat.le_refl _), (Below.refl _ _).alloc (Nat.le_refl _) _⟩
  case round =>
    obtain ⟨j, hj, rfl, HBU, HB⟩ := hrel
    by_cases hlt : j < l.length
    · obtain ⟨b, off, rfl, hb, hcl⟩ := HC.out (by intro e; subst e; simp at hlt)
      have q0 := (HB.out.cell (p := ⟨b, off + j, none⟩) hb).trans (hcl j l[j] (List.getElem?_eq_getElem hlt))
      obtain ⟨x, hx⟩ : ∃ x, l[j] = x := ⟨_, rfl⟩
      rw [hx] at q0
      have HX := Lib.hid hx
      have hxl := x.toNat_lt
      have hlen : ((l.take j).flatMap hexL).length = 2 * j := by
        have : ∀ m : Bs, (m.flatMap hexL).length = 2 * m.length := by
          intro m
          induction m with
          | nil => rfl
          | cons a m ih => simp only [List.flatMap_cons, List.length_append, ih, List.length_cons, hexL, List.length_nil]; omega
        rw [this, List.length_take]; omega
      have HL := Lib.hid hlen
      have hi1 := dgs_idx ((x.toNat : Int) / 16) (by omega) (by omega)
      have hi2 := dgs_idx ((x.toNat : Int) % 16) (by omega) (by omega)
      clear hcl hx hlen
      go_wp2_with fail
      have hw := HB.out.size
      refine (writeByte_any w.heap.size w.heap.size _ _ wr HBU.out (by rw [Lib.byteCells_length, HL.out]; omega) hw).mono ?_
      rintro e w1 ⟨rfl, hA1, hb1⟩
      have HA1 := Lib.hid hA1
      have HB1 : Hid (Below w.heap.size w w1) := HB.out.trans hb1
      clear hA1 hb1
      go_wp2_with fail
      have hw1 := HB1.out.size
      refine (writeByte_any w.heap.size w.heap.size _ _ w1 (.inr HA1.out) (by rw [List.length_append, Lib.byteCells_length, HL.out]; simp only [List.length_singleton]; omega) hw1).mono ?_
      rintro e w2 ⟨rfl, hA2, hb2⟩
      have HA2 := Lib.hid hA2
      have HB2 : Hid (Below w.heap.size w w2) := HB1.out.trans hb2
      clear hA2 hb2
      go_wp2_with fail
      go_roundw
      case rel => exact ⟨j + 1, by omega, by go_num, Lib.hid (.inr (by
        have h := HA2.out
        rw [← cells_snoc, ← cells_snoc] at h
        rw [take_snoc _ _ hlt, HX.out, List.flatMap_append, List.flatMap_singleton]
        rw [List.append_assoc] at h
        exact h)), HB2⟩
      case measure => simp [intOf]; omega
    · have hjl : j = l.length := by omega
      have HBE : Hid (Lib.IsBuilder 81 5 w.heap.size w.heap.size (byteCells (l.flatMap hexL)) wr) := Lib.hid (by have h := HBU.out; rw [hjl, List.take_length] at h; exact h)
      have hw := HB.out.size
      clear hjl HBU
      go_wp2_with fail
      refine (Tryz.Builder_String_any w.heap.size w.heap.size _ wr HBE.out hw).mono ?_
      rintro e w1 ⟨rfl, hb1⟩
      have HB1 : Hid (Below w.heap.size w w1) := HB.out.trans hb1
      clear hb1
      go_wp2_with fail
      go_ret
      exact ⟨rfl, HB1.out⟩
end Go.Proofs.YtepalbldleegiaaGreatDoor.sh
