/-
  The document's text walked.
  Conditions: a text has at most 2^40 letters.
-/
import Derived.Test.YtepalbldleegiaaGreatDoorSwc
namespace Go.Proofs.YtepalbldleegiaaGreatDoor.sh
open Go.RowKit
open Go.Lib (itoa decDigits)

theorem S_idx (l : Bs) (j : Nat) (hj : j < l.length) (W : World) : (Instr.index 9 (.string (S l)) (.int .i64 (j : Int))).run Tryz.prog W = .ok (.int .u8 (l[j].toNat : Int)) W := by
  rw [run_index_string _ _ _ _ _ Tryz.underlying9, dif_pos ⟨by omega, by rw [S_size]; omega⟩]
  rfl
theorem S_cut (l : Bs) (j : Nat) (hj : j < l.length) (W : World) : (Instr.slice 9 (.string (S l)) (some (.int .i64 (j : Int))) (some (.int .i64 ((j : Int) + 1))) none).run Tryz.prog W = .ok (.string (S [l[j]])) W := by
  rw [run_slice_string_if _ _ _ _ _ _ _ Tryz.underlying9, if_pos (by rw [S_size]; omega), if_pos (by omega)]
  have e : (S l).extract ((j : Int)).toNat ((j : Int) + 1).toNat = S [l[j]] := by
    apply Go.WideShapes.bytes_inj
    rw [show ((j : Int) + 1).toNat = j + 1 by omega, Int.toNat_natCast]
    rw [ByteArray.data_extract]
    simp only [S, Array.toList_extract, List.extract_eq_take_drop]
    rw [show j + 1 - j = 1 by omega, List.drop_eq_getElem_cons hj]
    rfl
  rw [e]
theorem S_list (l : Bs) : (S l).toList = l := by rw [ByteArray.toList_eq]; simp [S]
theorem esc_len1 (c : UInt8) : (escL c).length ≤ 4 := by rcases escL_form c with ⟨h, _⟩ | ⟨h, _⟩ | h <;> rw [h] <;> simp [hexL]
theorem esc_len (l : Bs) : (l.flatMap escL).length ≤ 4 * l.length := by
  induction l with
  | nil => simp
  | cons c l ih => have := esc_len1 c; simp only [List.flatMap_cons, List.length_append, List.length_cons]; omega
theorem take_snoc (l : Bs) (j : Nat) (h : j < l.length) : l.take (j + 1) = l.take j ++ [l[j]] := by rw [List.take_succ_eq_append_getElem h]
theorem u8_eq (c : UInt8) (k : Nat) (hk : k < 256) : (c.toNat = k) ↔ c = UInt8.ofNat k := by
  constructor
  · intro h; subst h; simp
  · intro h; subst h; rw [UInt8.toNat_ofNat']; omega

set_option maxRecDepth 100000 in
set_option maxHeartbeats 4000000 in
theorem rtext_any (s : Bs) (hs : s.length ≤ 1099511627776) (w : World) :
    Calls Tryz.prog 67 #[.string (S s)] w fun e w' => e = .returned (.string (S (textL s))) ∧ Below w.heap.size w w' := by
  have hsz : (S s).size = s.length := rfl
  have hli := S_list s
  have hni : (⟨#[]⟩ : ByteArray).toList = [] := S_list []
  obtain ⟨z, hz⟩ : ∃ z : Bool, (!List.isEmpty s) = z := ⟨_, rfl⟩
  go_enter Tryz.func67, Tryz.ntmps67
  go_wp2_with fail
  have e0 : (z && (s.take 0).all bareB) = z := by rw [List.take_zero]; simp
  go_loopw [3, 4] (fun s3 i wr => ∃ (j : Nat) (b : Bool), j ≤ s.length ∧ i = .int .i64 j ∧ s3 = .bool b ∧ Hid (b = (z && (s.take j).all bareB)) ∧ wr = w) (fun _ i _ => s.length - (intOf i).toNat)
  case atStart => exact ⟨0, z, Nat.zero_le _, rfl, rfl, e0.symm, rfl⟩
  case round =>
    obtain ⟨j, b, hj, rfl, rfl, HB, rfl⟩ := hrel
    by_cases hlt : j < s.length
    · cases b with
      | false =>
        go_wp2_with fail
        go_roundw
        case rel => exact ⟨j + 1, false, by omega, by go_num, rfl, Lib.hid (by rw [take_snoc _ _ hlt, List.all_append, ← Bool.and_assoc, ← HB.out]; rfl), trivial⟩
        case measure => simp [intOf]; omega
      | true =>
        have hix := S_idx s j hlt
        obtain ⟨c, hc⟩ : ∃ c, s[j] = c := ⟨_, rfl⟩
        rw [hc] at hix
        have HC := Lib.hid hc
        clear hc
        go_wp2_with fail
        refine (plain_any _ ⟨by omega, by have := c.toNat_lt; omega⟩ _).mono ?_
        rintro e w1 ⟨rfl, rfl⟩
        rw [bareN_eq]
        generalize hb : bareB c = bc
        have HBC := Lib.hid hb
        clear hb
        go_wp2_with fail
        go_roundw
        case rel => exact ⟨j + 1, bc, by omega, by go_num, rfl, Lib.hid (by rw [take_snoc _ _ hlt, List.all_append, ← Bool.and_assoc, ← HB.out, HC.out]; simp [HBC.out]), trivial⟩
        case measure => simp [intOf]; omega
    · have hja : j = s.length := by omega
      have HB2 : Hid (b = (z && s.all bareB)) := Lib.hid (by rw [HB.out, hja, List.take_length])
      clear HB
      cases b with
      | true =>
        have hp : s ≠ [] ∧ s.all bareB = true := by
          have h := HB2.out.symm
          rw [← hz, Bool.and_eq_true] at h
          exact ⟨by simpa using h.1, h.2⟩
        go_wp2_with fail
        go_ret
        exact ⟨ret_str (by unfold textL; rw [if_pos hp]), Below.refl _ _⟩
      | false =>
        have hp : ¬ (s ≠ [] ∧ s.all bareB = true) := by
          rintro ⟨h1, h2⟩
          have h := HB2.out
          rw [← hz, h2, Bool.and_true] at h
          simp at h
          exact h1 (by simpa using h.symm)
        have HP := Lib.hid hp
        clear hp hja HB2
        go_wp2_with fail
        obtain ⟨wo, rfl⟩ : ∃ wo : World, wo = wr := ⟨_, rfl⟩
        go_loopw [5, 6] (fun s5 i wr => ∃ (q : Nat) (o : Bs), q ≤ s.length ∧ i = .int .i64 q ∧ s5 = .string (S o) ∧ Hid (o = 34 :: (s.take q).flatMap escL) ∧ Hid (Below wo.heap.size wo wr)) (fun _ i _ => s.length - (intOf i).toNat)
        case atStart => exact ⟨0, [34], Nat.zero_le _, rfl, rfl, rfl, Below.refl _ _⟩
        case round =>
          obtain ⟨q, o, hq, rfl, rfl, HO, HBL⟩ := hrel
          have ho : o.length ≤ 1 + 4 * q := by
            have := esc_len (s.take q)
            rw [List.length_take] at this
            rw [HO.out, List.length_cons]
            omega
          by_cases hlq : q < s.length
          · have hix := S_idx s q hlq
            have hcut := S_cut s q hlq
            obtain ⟨c, hc⟩ : ∃ c, s[q] = c := ⟨_, rfl⟩
            rw [hc] at hix hcut
            have HC := Lib.hid hc
            have hcl := c.toNat_lt
            have HN : ∀ e : Bs, escL c = e → Hid (o ++ e = 34 :: (s.take (q + 1)).flatMap escL) := fun e he => Lib.hid (by rw [take_snoc _ _ hlq, HC.out, List.flatMap_append, HO.out, ← he]; simp)
            have hadd1 : ∀ W, (Op.stringOp .add (S o) (⟨#[92, 34]⟩ : ByteArray)).run Tryz.prog W = .ok (.string (S (o ++ [92, 34]))) W := fun W => S_add o [92, 34] (by simp only [List.length_cons, List.length_nil]; omega) W
            have hadd2 : ∀ W, (Op.stringOp .add (S o) (⟨#[92, 92]⟩ : ByteArray)).run Tryz.prog W = .ok (.string (S (o ++ [92, 92]))) W := fun W => S_add o [92, 92] (by simp only [List.length_cons, List.length_nil]; omega) W
            have hadd3 : ∀ W, (Op.stringOp .add (S o) (⟨#[92, 120]⟩ : ByteArray)).run Tryz.prog W = .ok (.string (S (o ++ [92, 120]))) W := fun W => S_add o [92, 120] (by simp only [List.length_cons, List.length_nil]; omega) W
            have hadd4 : ∀ W, (Op.stringOp .add (S o) (S [c])).run Tryz.prog W = .ok (.string (S (o ++ [c]))) W := fun W => S_add o [c] (by simp only [List.length_cons, List.length_nil]; omega) W
            have hadd5 : ∀ W, (Op.stringOp .add (S (o ++ [92, 120])) (S (hexL c))).run Tryz.prog W = .ok (.string (S (o ++ [92, 120] ++ hexL c))) W := fun W => S_add (o ++ [92, 120]) (hexL c) (by simp only [List.length_append, List.length_cons, List.length_nil, hexL]; omega) W
            clear hc
            by_cases c1 : c.toNat = 34
            · have hce : c = 34 := (u8_eq c 34 (by omega)).1 c1
              have HF := HN [92, 34] (by subst hce; rfl)
              go_wp2_with fail
              exact ⟨⟨q + 1, _, by omega, by go_num, rfl, HF, HBL⟩, by simp [intOf]; omega⟩
            · by_cases c2 : c.toNat = 92
              · have hce : c = 92 := (u8_eq c 92 (by omega)).1 c2
                have HF := HN [92, 92] (by subst hce; rfl)
                go_wp2_with fail
                exact ⟨⟨q + 1, _, by omega, by go_num, rfl, HF, HBL⟩, by simp [intOf]; omega⟩
              · have hn1 : c ≠ 34 := fun h => c1 ((u8_eq c 34 (by omega)).2 h)
                have hn2 : c ≠ 92 := fun h => c2 ((u8_eq c 92 (by omega)).2 h)
                by_cases c3 : 32 ≤ c.toNat ∧ c.toNat ≤ 126
                · have HF := HN [c] (by unfold escL; rw [if_neg (by rintro (h | h); exact hn1 h; exact hn2 h), if_pos ⟨by rw [UInt8.le_iff_toNat_le]; exact c3.1, by rw [UInt8.le_iff_toNat_le]; exact c3.2⟩])
                  obtain ⟨c31, c32⟩ := c3
                  go_wp2_with fail
                  exact ⟨⟨q + 1, _, by omega, by go_num, rfl, HF, HBL⟩, by simp [intOf]; omega⟩
                · have HF := HN (92 :: 120 :: hexL c) (by unfold escL; rw [if_neg (by rintro (h | h); exact hn1 h; exact hn2 h), if_neg (by rintro ⟨h1, h2⟩; rw [UInt8.le_iff_toNat_le] at h1 h2; exact c3 ⟨h1, h2⟩)])
                  have hhx : hexL (UInt8.ofNat ((c.toNat : Int)).toNat) = hexL c := by simp
                  by_cases c4 : 32 ≤ c.toNat
                  · have c5 : 126 < c.toNat := by omega
                    go_wp2_with fail
                    refine (hex_any _ ⟨by omega, by omega⟩ _).mono ?_
                    rintro e w1 ⟨rfl, hb1⟩
                    rw [hhx]
                    have HB1 : Hid (Below wo.heap.size wo w1) := HBL.out.trans (hb1.mono HBL.out.size)
                    clear hb1
                    go_wp2_with fail
                    exact ⟨⟨q + 1, _, by omega, by go_num, rfl, HF, HB1⟩, by simp [intOf]; omega⟩
                  · go_wp2_with fail
                    refine (hex_any _ ⟨by omega, by omega⟩ _).mono ?_
                    rintro e w1 ⟨rfl, hb1⟩
                    rw [hhx]
                    have HB1 : Hid (Below wo.heap.size wo w1) := HBL.out.trans (hb1.mono HBL.out.size)
                    clear hb1
                    go_wp2_with fail
                    exact ⟨⟨q + 1, _, by omega, by go_num, rfl, HF, HB1⟩, by simp [intOf]; omega⟩
          · have hqa : q = s.length := by omega
            have hadd6 : ∀ W, (Op.stringOp .add (S o) (⟨#[34]⟩ : ByteArray)).run Tryz.prog W = .ok (.string (S (o ++ [34]))) W := fun W => S_add o [34] (by simp only [List.length_cons, List.length_nil]; omega) W
            have HF : Hid (o ++ [34] = textL s) := Lib.hid (by
              rw [HO.out, hqa, List.take_length]
              unfold textL
              rw [if_neg HP.out]
              rfl)
            clear hqa
            go_wp2_with fail
            go_ret
            exact ⟨ret_str (by rw [HF.out]), HBL.out⟩
end Go.Proofs.YtepalbldleegiaaGreatDoor.sh
