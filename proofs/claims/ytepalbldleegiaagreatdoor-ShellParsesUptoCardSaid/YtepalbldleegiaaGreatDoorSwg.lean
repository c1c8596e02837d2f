/-
  The program's text walked.
  Conditions: a text has at most 2^40 letters.
-/
import Derived.Test.YtepalbldleegiaaGreatDoorSwf
namespace Go.Proofs.YtepalbldleegiaaGreatDoor.sh
open Go.RowKit
open Go.Lib (itoa decDigits byteCells)

theorem grown_of_below {w w' : World} (h : Below w.heap.size w w') : w.grownBy w' none := ⟨h.os, h.tape, h.output, h.size, fun k hk _ => h.block k hk⟩
theorem builderAt_grown {T e : TypeId} {B b : Nat} {p : Value} {bs : List Value} {w w' : World} (h : Lib.BuilderAt T e B b p bs w) (hg : w.grownBy w' none) : Lib.BuilderAt T e B b p bs w' := by
  have hlt := h.lt
  obtain ⟨hB, v, hb, hown, hne⟩ := h
  exact ⟨hB, v, (hg.block b hlt (by simp)).trans hb, hown.kept hg (by cases hv : Value.ownBlock _ <;> simp), hne⟩
theorem builder_grown {T e : TypeId} {B b : Nat} {bs : List Value} {w w' : World} (h : Lib.IsBuilder T e B b bs w) (hg : w.grownBy w' none) : Lib.IsBuilder T e B b bs w' := by
  rcases h with h | h
  · exact .inl (builderAt_grown h hg)
  · exact .inr (builderAt_grown h hg)
theorem strCells_S (l : Bs) : Lib.strCells (S l) = byteCells l := by simp [Lib.strCells, byteCells, S]
theorem cells_append (a b : Bs) : byteCells (a ++ b) = byteCells a ++ byteCells b := by simp [byteCells]

set_option maxRecDepth 100000 in
set_option maxHeartbeats 4000000 in
theorem text_any (s : Bs) (hs : s.length ≤ 1099511627776) (w : World) :
    Calls Tryz.prog 35 #[.string (S s)] w fun e w' => e = .returned (.string (S (textL s))) ∧ Below w.heap.size w w' := by
  have hsz : (S s).size = s.length := rfl
  have hli := S_list s
  have hni : (⟨#[]⟩ : ByteArray).toList = [] := S_list []
  obtain ⟨z, hz⟩ : ∃ z : Bool, (!List.isEmpty s) = z := ⟨_, rfl⟩
  go_enter Tryz.func35, Tryz.ntmps35
  go_wp2_with fail
  have e0 : (z && (s.take 0).all bareB) = z := by rw [List.take_zero]; simp
  go_loopw [3, 12] (fun s3 i wr => ∃ (j : Nat) (b : Bool), j ≤ s.length ∧ i = .int .i64 j ∧ s3 = .bool b ∧ Hid (b = (z && (s.take j).all bareB)) ∧ wr = w) (fun _ i _ => s.length - (intOf i).toNat)
  case atStart => exact ⟨0, z, Nat.zero_le _, rfl, rfl, e0.symm, rfl⟩
  case round =>
    obtain ⟨j, b, hj, rfl, rfl, HB, rfl⟩ := hrel
    by_cases hlt : j < s.length
    · cases b with
      | false =>
        go_wp2_with fail
        exact ⟨⟨j + 1, false, by omega, by go_num, rfl, Lib.hid (by rw [take_snoc _ _ hlt, List.all_append, ← Bool.and_assoc, ← HB.out]; rfl), by first | rfl | trivial⟩, by simp [intOf]; omega⟩
      | true =>
        have hix := S_idx s j hlt
        obtain ⟨c, hc⟩ : ∃ c, s[j] = c := ⟨_, rfl⟩
        rw [hc] at hix
        have HC := Lib.hid hc
        clear hc
        go_wp2_with fail
        refine (bare_any _ ⟨by omega, by have := c.toNat_lt; omega⟩ _).mono ?_
        rintro e w1 ⟨rfl, rfl⟩
        rw [bareN_eq]
        generalize hb : bareB c = bc
        have HBC := Lib.hid hb
        clear hb
        go_wp2_with fail
        exact ⟨⟨j + 1, bc, by omega, by go_num, rfl, Lib.hid (by rw [take_snoc _ _ hlt, List.all_append, ← Bool.and_assoc, ← HB.out, HC.out]; simp [HBC.out]), by first | rfl | trivial⟩, by simp [intOf]; omega⟩
    · have hja : j = s.length := by omega
      have HB2 : Hid (b = (z && s.all bareB)) := Lib.hid (by rw [HB.out, hja, List.take_length])
      clear HB
      cases b with
      | true =>
        have hp : s ≠ [] ∧ s.all bareB = true := by
          have h := HB2.out.symm
          rw [← hz, Bool.and_eq_true] at h
          exact ⟨by simpa using h.1, h.2⟩
        go_wp2_with fail
        go_ret
        exact ⟨ret_str (by unfold textL; rw [if_pos hp]), Below.refl _ _⟩
      | false =>
        have hp : ¬ (s ≠ [] ∧ s.all bareB = true) := by
          rintro ⟨h1, h2⟩
          have h := HB2.out
          rw [← hz, h2, Bool.and_true] at h
          simp at h
          exact h1 (by simpa using h.symm)
        have HP := Lib.hid hp
        clear hp hja HB2
        go_wp2_with fail
        obtain ⟨wo, rfl⟩ : ∃ wo : World, wo = wr := ⟨_, rfl⟩
        refine (writeByte_any wo.heap.size wo.heap.size _ 34 _ (builder_new wo _ (Nat.le_refl _)) (by simp [byteCells]) (by simp)).mono ?_
        rintro e w1 ⟨rfl, hA1, hb1⟩
        have HA1 : Hid (Lib.IsBuilder 81 5 wo.heap.size wo.heap.size (byteCells [34]) w1) := Lib.hid (.inr hA1)
        have HB1 : Hid (Below wo.heap.size wo w1) := ((Below.refl _ _).alloc (Nat.le_refl _) _).trans hb1
        clear hA1 hb1
        go_wp2_with fail
        go_loopw [28] (fun i wr => ∃ (q : Nat), q ≤ s.length ∧ i = .int .i64 q ∧ Hid (Lib.IsBuilder 81 5 wo.heap.size wo.heap.size (byteCells (34 :: (s.take q).flatMap escL)) wr) ∧ Hid (Below wo.heap.size wo wr)) (fun i _ => s.length - (intOf i).toNat)
        case atStart => exact ⟨0, Nat.zero_le _, rfl, HA1, HB1⟩
        case round =>
          obtain ⟨q, hq, rfl, HBU, HBL⟩ := hrel
          have ho : (34 :: (s.take q).flatMap escL : Bs).length ≤ 1 + 4 * q := by
            have := esc_len (s.take q)
            rw [List.length_take] at this
            rw [List.length_cons]
            omega
          obtain ⟨o, hoe⟩ : ∃ o : Bs, o = 34 :: (s.take q).flatMap escL := ⟨_, rfl⟩
          rw [← hoe] at HBU ho
          have HO := Lib.hid hoe
          have hw := HBL.out.size
          clear hoe
          by_cases hlq : q < s.length
          · have hix := S_idx s q hlq
            obtain ⟨c, hc⟩ : ∃ c, s[q] = c := ⟨_, rfl⟩
            rw [hc] at hix
            have HC := Lib.hid hc
            have hcl := c.toNat_lt
            have HN : Hid (∀ e : Bs, escL c = e → o ++ e = 34 :: (s.take (q + 1)).flatMap escL) := Lib.hid fun e he => by rw [take_snoc _ _ hlq, HC.out, List.flatMap_append, HO.out, ← he]; simp
            clear hc
            by_cases c1 : c.toNat = 34 ∨ c.toNat = 92
            · have hc34 : c = 34 ∨ c = 92 := c1.imp (u8_eq c 34 (by omega)).1 (u8_eq c 92 (by omega)).1
              have HF : Hid (o ++ [92, c] = 34 :: (s.take (q + 1)).flatMap escL) := Lib.hid (HN.out _ (by unfold escL; rw [if_pos hc34]))
              clear hc34
              rcases c1 with c1 | c1
              all_goals
                go_wp2_with fail
                refine (writeByte_any wo.heap.size wo.heap.size _ _ wr HBU.out (by rw [Lib.byteCells_length]; omega) hw).mono ?_
                rintro e w2 ⟨rfl, hA2, hb2⟩
                have HA2 : Hid (Lib.IsBuilder 81 5 wo.heap.size wo.heap.size (byteCells (o ++ [92])) w2) := Lib.hid (.inr (by rw [cells_append]; exact hA2))
                have HB2 : Hid (Below wo.heap.size wo w2) := HBL.out.trans hb2
                have hw2 := HB2.out.size
                clear hA2 hb2
                go_wp2_with fail
                refine (writeByte_any wo.heap.size wo.heap.size _ _ w2 HA2.out (by rw [Lib.byteCells_length, List.length_append]; simp only [List.length_singleton]; omega) hw2).mono ?_
                rintro e w3 ⟨rfl, hA3, hb3⟩
                have HA3 : Hid (Lib.IsBuilder 81 5 wo.heap.size wo.heap.size (byteCells (o ++ [92, c])) w3) := Lib.hid (.inr (by rw [show o ++ [92, c] = (o ++ [92]) ++ [c] by simp, cells_append (o ++ [92])]; first | exact hA3 | (rw [show byteCells [c] = [.int .u8 (c.toNat : Int)] from rfl, c1]; exact hA3)))
                have HB3 : Hid (Below wo.heap.size wo w3) := HB2.out.trans hb3
                clear hA3 hb3
                go_wp2_with fail
                exact ⟨⟨q + 1, by omega, by go_num, by rw [← HF.out]; exact HA3, HB3⟩, by simp [intOf]; omega⟩
            · have c11 : ¬ c.toNat = 34 := fun h => c1 (.inl h)
              have c12 : ¬ c.toNat = 92 := fun h => c1 (.inr h)
              have hn1 : ¬ (c = 34 ∨ c = 92) := fun h => c1 (h.imp (u8_eq c 34 (by omega)).2 (u8_eq c 92 (by omega)).2)
              have hb1 : ((c.toNat : Int) == 34) = false := by rw [beq_eq_false_iff_ne]; omega
              have hb2 : ((c.toNat : Int) == 92) = false := by rw [beq_eq_false_iff_ne]; omega
              clear c1
              by_cases c3 : 32 ≤ c.toNat ∧ c.toNat ≤ 126
              · have HF : Hid (o ++ [c] = 34 :: (s.take (q + 1)).flatMap escL) := Lib.hid (HN.out [c] (by unfold escL; rw [if_neg hn1, if_pos ⟨by rw [UInt8.le_iff_toNat_le]; exact c3.1, by rw [UInt8.le_iff_toNat_le]; exact c3.2⟩]))
                obtain ⟨c31, c32⟩ := c3
                go_wp2_with fail
                refine (writeByte_any wo.heap.size wo.heap.size _ _ wr HBU.out (by rw [Lib.byteCells_length]; omega) hw).mono ?_
                rintro e w2 ⟨rfl, hA2, hb2⟩
                have HA2 : Hid (Lib.IsBuilder 81 5 wo.heap.size wo.heap.size (byteCells (o ++ [c])) w2) := Lib.hid (.inr (by rw [cells_append]; exact hA2))
                have HB2 : Hid (Below wo.heap.size wo w2) := HBL.out.trans hb2
                clear hA2 hb2
                go_wp2_with fail
                exact ⟨⟨q + 1, by omega, by go_num, by rw [← HF.out]; exact HA2, HB2⟩, by simp [intOf]; omega⟩
              · have HF : Hid (o ++ (92 :: 120 :: hexL c) = 34 :: (s.take (q + 1)).flatMap escL) := Lib.hid (HN.out _ (by unfold escL; rw [if_neg hn1, if_neg (by rintro ⟨h1, h2⟩; rw [UInt8.le_iff_toNat_le] at h1 h2; exact c3 ⟨h1, h2⟩)]))
                have hadd : ∀ W, (Op.stringOp .add (⟨#[92, 120]⟩ : ByteArray) (S (hexL c))).run Tryz.prog W = .ok (.string (S (92 :: 120 :: hexL c))) W := fun W => S_add [92, 120] (hexL c) (by simp only [List.length_cons, List.length_nil, hexL]; omega) W
                have hcs : c.toNat < 32 ∨ (32 ≤ c.toNat ∧ 126 < c.toNat) := by omega
                rcases hcs with c4 | ⟨c4, c5⟩
                all_goals
                  go_wp2_with fail
                  refine (digitsOf_any [c] (some ⟨wr.heap.size, 0, none⟩) 1 (wr.alloc (Obj.cells #[Value.int IntKind.u8 (c.toNat : Int)] 5)) (by simp) (fun _ => ⟨wr.heap.size, 0, rfl, by simp, fun i x hx => ?_⟩)).mono ?_
                  · have hi0 : i = 0 := by have := (List.getElem?_eq_some_iff.1 hx).1; simpa using this
                    subst hi0
                    have hxc : x = c := by simpa using hx.symm
                    subst hxc
                    exact cell_of_row _ _ 0 _ _ (0, 0) (heap_alloc_new wr _)
                  rintro e w2 ⟨rfl, hb2⟩
                  have hfl : S ([c].flatMap hexL) = S (hexL c) := by simp
                  rw [hfl]
                  have HA2 : Hid (Lib.IsBuilder 81 5 wo.heap.size wo.heap.size (byteCells o) w2) := Lib.hid (builder_grown (builder_grown HBU.out (World.grownBy_alloc wr _ none)) (grown_of_below hb2))
                  have HB2 : Hid (Below wo.heap.size wo w2) := (HBL.out.alloc hw _).trans (hb2.mono (by simp; omega))
                  have hw2 := HB2.out.size
                  clear hb2 hfl
                  go_wp2_with fail
                  refine (writeString_any wo.heap.size wo.heap.size _ _ w2 HA2.out (by rw [Lib.byteCells_length, S_size]; simp only [List.length_cons, hexL, List.length_nil]; omega) hw2).mono ?_
                  rintro e w3 ⟨rfl, hA3, hb3⟩
                  have HA3 : Hid (Lib.IsBuilder 81 5 wo.heap.size wo.heap.size (byteCells (o ++ (92 :: 120 :: hexL c))) w3) := Lib.hid (.inr (by rw [cells_append, ← strCells_S (92 :: 120 :: hexL c)]; exact hA3))
                  have HB3 : Hid (Below wo.heap.size wo w3) := HB2.out.trans hb3
                  clear hA3 hb3
                  go_wp2_with fail
                  exact ⟨⟨q + 1, by omega, by go_num, by rw [← HF.out]; exact HA3, HB3⟩, by simp [intOf]; omega⟩
          · have hqa : q = s.length := by omega
            have HF : Hid (o ++ [34] = textL s) := Lib.hid (by
              rw [HO.out, hqa, List.take_length]
              unfold textL
              rw [if_neg HP.out]
              rfl)
            clear hqa
            go_wp2_with fail
            refine (writeByte_any wo.heap.size wo.heap.size _ 34 wr HBU.out (by rw [Lib.byteCells_length]; omega) hw).mono ?_
            rintro e w2 ⟨rfl, hA2, hb2⟩
            have HA2 : Hid (Lib.IsBuilder 81 5 wo.heap.size wo.heap.size (byteCells (textL s)) w2) := Lib.hid (.inr (by rw [← HF.out, cells_append]; exact hA2))
            have HB2 : Hid (Below wo.heap.size wo w2) := HBL.out.trans hb2
            have hw2 := HB2.out.size
            clear hA2 hb2
            go_wp2_with fail
            refine (Tryz.Builder_String_any wo.heap.size wo.heap.size _ w2 HA2.out hw2).mono ?_
            rintro e w3 ⟨rfl, hb3⟩
            have HB3 : Hid (Below wo.heap.size wo w3) := HB2.out.trans hb3
            clear hb3
            go_wp2_with fail
            go_ret
            exact ⟨rfl, HB3.out⟩
end Go.Proofs.YtepalbldleegiaaGreatDoor.sh
