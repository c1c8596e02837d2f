/-
  The program's text out of the parts of a line: walked.
  Conditions: parts of at most 4096 bytes.
-/
import Derived.Test.YtepalbldleegiaaGreatDoorSpe
namespace Go.Proofs.YtepalbldleegiaaGreatDoor.sh
open Go.RowKit
open Go.Lib (itoa decDigits byteCells atoiAll)

def strLen : Value → Nat
  | .string b => b.size
  | _ => 0
def textR : List Bs → Option (Bs × List Bs)
  | [] => none
  | p :: r => (readT p).map fun x => (x, r)
theorem unesc_short (s : Bs) (h : s.length < 2) : unesc (92 :: 120 :: s) = (unesc s).map (120 :: ·) := by
  match s, h with
  | [], _ => simp [unesc]
  | [a], _ => simp only [unesc]
theorem unesc_d (d : UInt8) (s : Bs) (h : d ≠ 120 ∨ s.length < 2) : unesc (92 :: d :: s) = (unesc s).map (d :: ·) := by
  by_cases hd : d = 120
  · subst hd
    exact unesc_short s (by rcases h with h | h; exact absurd rfl h; exact h)
  · exact unesc_two d s hd
theorem map_app {o : Bs} {c : UInt8} (x : Option Bs) : (x.map (c :: ·)).map (o ++ ·) = x.map ((o ++ [c]) ++ ·) := by
  cases x <;> simp
theorem builder_keep {B b : Nat} {bs : List Value} {w w' : World} (h : Lib.IsBuilder 81 5 B b bs w) (hb : Below w.heap.size w w') : Lib.IsBuilder 81 5 B b bs w' := builder_grown h (grown_of_below hb)
theorem drop_last_eq (p : Bs) : (p.take (p.length - 1)).drop 1 = (p.drop 1).dropLast := by
  rw [List.dropLast_eq_take, List.drop_take, List.length_drop]

set_option maxRecDepth 100000 in
set_option maxHeartbeats 4000000 in
theorem text_read (pg : Nat) (l : List Bs) (w : World) (h : PartsAt w pg l) (hl : ∀ p ∈ l, p.length ≤ 4096) :
    Calls Tryz.prog 92 #[.pointer (some ⟨pg, 0, none⟩)] w (Reads (fun x => .string (S x)) pg w (textR l)) := by
  cases l with
  | nil =>
    go_enter Tryz.func92, Tryz.ntmps92
    go_wp2_with fail
    refine (next_none pg w h).mono ?_
    rintro e w1 ⟨rfl, hg⟩
    go_wp2_with fail
    exact ⟨rfl, rfl, hg⟩
  | cons p r =>
    have hp := hl p List.mem_cons_self
    clear hl
    obtain ⟨res, hres⟩ : ∃ x, textR (p :: r) = x := ⟨_, rfl⟩
    rw [hres]
    rw [textR] at hres
    have HR := Lib.hid hres
    clear hres
    have hsz : (S p).size = p.length := S_size _
    go_enter Tryz.func92, Tryz.ntmps92
    go_wp2_with fail
    refine (next_some pg p r w h).mono ?_
    rintro e w1 ⟨rfl, hg, hp1⟩
    have HG := Lib.hid hg
    have HP := Lib.hid hp1
    clear hg hp1 h
    go_wp2_with fail
    refine (hasPre_any p [34] w1).mono ?_
    rintro e w1' ⟨rfl, rfl⟩
    rw [pre34]
    by_cases hq : p.head? = some 34
    rotate_left
    · rw [decide_eq_false hq]
      have HF : Hid (res = some (p, r)) := Lib.hid (by rw [← HR.out, readT, if_pos hq]; rfl)
      clear hq
      go_wp2_with fail
      go_ret
      rw [HF.out]
      exact ⟨rfl, HG.out, HP.out⟩
    rw [decide_eq_true hq]
    by_cases hb : p.length < 2 ∨ p.getLast? ≠ some 34
    · have HF : Hid (res = none) := Lib.hid (by rw [← HR.out, readT, if_neg (fun e => e hq), if_pos hb]; rfl)
      clear hq
      by_cases h2 : p.length < 2
      · have h2' : (p.length : Int) < 2 := by omega
        go_wp2_with fail
        all_goals
          refine ⟨rfl, ?_⟩
          rw [HF.out]
          exact ⟨rfl, HG.out⟩
      · have h2' : ¬ (p.length : Int) < 2 := by omega
        have h3 : Lib.hasSuffix p [34] = false := by rw [suf34, decide_eq_false]; exact fun e => (hb.resolve_left h2) e
        clear hb
        go_wp2_with fail
        refine (hasSuf_any p [34] hp w1').mono ?_
        rintro e w2 ⟨rfl, rfl⟩
        rw [h3]
        go_wp2_with fail
        all_goals
          refine ⟨rfl, ?_⟩
          rw [HF.out]
          exact ⟨rfl, HG.out⟩
    · have h2 : 2 ≤ p.length := by by_cases h2 : p.length < 2; exact absurd (Or.inl h2) hb; omega
      have h3 : Lib.hasSuffix p [34] = true := by rw [suf34, decide_eq_true]; exact Classical.byContradiction fun e => hb (Or.inr e)
      have h2' : ¬ (p.length : Int) < 2 := by omega
      obtain ⟨q, hqq⟩ : ∃ q, (p.drop 1).dropLast = q := ⟨_, rfl⟩
      have HRQ : Hid (res = (unesc q).map fun x => (x, r)) := Lib.hid (by rw [← HR.out, readT, if_neg (fun e => e hq), if_neg hb, hqq])
      have HQL : Hid (q.length ≤ 4096) := Lib.hid (by rw [← hqq, List.length_dropLast, List.length_drop]; omega)
      have hsl : ∀ W, (Instr.slice 9 (.string (S p)) (some (.int .i64 1)) (some (.int .i64 ((p.length : Int) - 1))) none).run Tryz.prog W = .ok (.string (S q)) W := fun W => by
        have := S_slice p 1 (p.length - 1) (by omega) (by omega) W
        rw [drop_last_eq, hqq, show ((p.length - 1 : Nat) : Int) = (p.length : Int) - 1 by omega] at this
        exact this
      clear hb hq hqq HR
      go_wp2_with fail
      refine (hasSuf_any p [34] hp w1').mono ?_
      rintro e w2 ⟨rfl, rfl⟩
      rw [h3]
      go_upto_region 8 with fail
      have hbu := builder_new w2 w2.heap.size (Nat.le_refl _)
      have hbb : Below w2.heap.size w2 (w2.alloc (.cells #[.pointer none, .slice none 0 0] 81)) := (Below.refl _ _).alloc (Nat.le_refl _) _
      have hbg : w2.heap.size < (w2.alloc (.cells #[.pointer none, .slice none 0 0] 81)).heap.size := by rw [World.size_alloc]; exact Nat.lt_succ_self _
      obtain ⟨w3, hw3⟩ : ∃ x, w2.alloc (.cells #[.pointer none, .slice none 0 0] 81) = x := ⟨_, rfl⟩
      rw [hw3] at hbu hbb hbg ⊢
      have HBU := Lib.hid hbu
      have HBB := Lib.hid hbb
      have HBG := Lib.hid hbg
      clear hw3 hbu hbb hbg hsl h3 h2 h2' hsz
      go_loopw [3] (fun s3 wr => ∃ (s o : Bs), s3 = .string (S s) ∧ Hid (unesc q = (unesc s).map (o ++ ·)) ∧ Hid (o.length + s.length ≤ 4096) ∧ Hid (Lib.IsBuilder 81 5 w2.heap.size w2.heap.size (byteCells o) wr) ∧ Hid (Below w2.heap.size w2 wr) ∧ Hid (w3.heap.size ≤ wr.heap.size)) (fun s3 _ => strLen s3)
      case atStart => exact ⟨q, [], rfl, Lib.hid (by simp), Lib.hid (by simpa using HQL.out), HBU, HBB, Lib.hid (Nat.le_refl _)⟩
      case round =>
        obtain ⟨s, o, rfl, HU, HLN, HBr, HBW, HSZ⟩ := hrel
        have hsz : (S s).size = s.length := S_size _
        have hln := HLN.out
        have hwb := HBW.out.size
        cases s with
        | nil =>
          have HF : Hid (res = some (o, r)) := Lib.hid (by rw [HRQ.out, HU.out, unesc, Option.map_some, Option.map_some, List.append_nil])
          rw [List.length_nil] at hsz
          go_wp2_with fail
          refine (Tryz.Builder_String_any w2.heap.size w2.heap.size _ wr HBr.out hwb).mono ?_
          rintro e w4 ⟨rfl, hb4⟩
          have HB4 : Hid (Below w2.heap.size w2 w4) := HBW.out.trans hb4
          clear hb4
          go_wp2_with fail
          go_ret
          rw [HF.out]
          exact ⟨by simp [S], gb_trans HG.out (gb_below pg HB4.out), HP.out.below HB4.out⟩
        | cons c t =>
          rw [List.length_cons] at hsz hln
          have hi0 : ∀ W, (Instr.index 9 (.string (S (c :: t))) (.int .i64 0)).run Tryz.prog W = .ok (.int .u8 (c.toNat : Int)) W := S_idx (c :: t) 0 (by simp)
          by_cases hc : c = 92
          rotate_left
          · have hne : ((c.toNat : Int) != 92) = true := by
              rw [bne_iff_ne]
              intro h
              exact hc ((u8_eq c 92 (by decide)).1 (by omega))
            have hs1 : ∀ W, (Instr.slice 9 (.string (S (c :: t))) (some (.int .i64 1)) none none).run Tryz.prog W = .ok (.string (S t)) W := S_from (c :: t) 1 (by simp)
            have HU2 : Hid (unesc q = (unesc t).map ((o ++ [c]) ++ ·)) := Lib.hid (by rw [HU.out, unesc_other c t hc, map_app])
            clear hc
            go_wp2_with fail
            refine (writeByte_any w2.heap.size w2.heap.size _ _ wr HBr.out (by rw [Lib.byteCells_length]; omega) hwb).mono ?_
            rintro e w4 ⟨rfl, h4, hb4⟩
            have HB4 : Hid (Below w2.heap.size w2 w4) := HBW.out.trans hb4
            have HZ4 : Hid (w3.heap.size ≤ w4.heap.size) := Nat.le_trans HSZ.out hb4.size
            have HBr4 : Hid (Lib.IsBuilder 81 5 w2.heap.size w2.heap.size (byteCells (o ++ [c])) w4) := Lib.hid (.inr (by rw [cells_snoc]; exact h4))
            clear h4 hb4
            go_wp2_with fail
            go_roundw
            case rel => exact ⟨t, _, rfl, HU2, Lib.hid (by rw [List.length_append]; simp; omega), HBr4, HB4, HZ4⟩
            case measure => simp only [strLen, S_size, List.length_cons]; omega
          subst hc
          have hi0' : ∀ W, (Instr.index 9 (.string (S (92 :: t))) (.int .i64 0)).run Tryz.prog W = .ok (.int .u8 92) W := hi0
          clear hi0
          cases t with
          | nil =>
            have HF : Hid (res = none) := Lib.hid (by rw [HRQ.out, HU.out]; simp [unesc])
            have hpf : Lib.hasPrefix [92] [92, 120] = false := by rw [pre92]; rfl
            rw [List.length_nil] at hsz
            go_wp2_with fail
            refine (hasPre_any [92] [92, 120] wr).mono ?_
            rintro e w4 ⟨rfl, rfl⟩
            rw [hpf]
            go_wp2_with fail
            all_goals
              refine ⟨rfl, ?_⟩
              rw [HF.out]
              exact ⟨rfl, gb_trans HG.out (gb_below pg HBW.out)⟩
          | cons d s' =>
            rw [List.length_cons] at hsz hln
            by_cases hx : d = 120 ∧ 2 ≤ s'.length
            · obtain ⟨rfl, hx2⟩ := hx
              match s', hx2 with
              | h :: l :: s'', _ =>
                rw [List.length_cons, List.length_cons] at hsz hln
                have hpf : Lib.hasPrefix (92 :: 120 :: h :: l :: s'') [92, 120] = true := by rw [pre92]; rfl
                have hs2 : ∀ W, (Instr.slice 9 (.string (S (92 :: 120 :: h :: l :: s''))) (some (.int .i64 2)) (some (.int .i64 4)) none).run Tryz.prog W = .ok (.string (S [h, l])) W := S_slice (92 :: 120 :: h :: l :: s'') 2 4 (by omega) (by simp)
                have hs4 : ∀ W, (Instr.slice 9 (.string (S (92 :: 120 :: h :: l :: s''))) (some (.int .i64 4)) none none).run Tryz.prog W = .ok (.string (S s'')) W := S_from (92 :: 120 :: h :: l :: s'') 4 (by simp)
                have HBL : Hid (bytesL [h, l] = (byteOf h l).map fun b => [b]) := Lib.hid (by simp only [bytesL]; cases byteOf h l <;> rfl)
                have HUN : Hid (unesc (92 :: 120 :: h :: l :: s'') = (byteOf h l).bind fun b => (unesc s'').map (b :: ·)) := Lib.hid (by simp only [unesc])
                go_wp2_with fail
                refine (hasPre_any (92 :: 120 :: h :: l :: s'') [92, 120] wr).mono ?_
                rintro e w4 ⟨rfl, rfl⟩
                rw [hpf]
                go_wp2_with fail
                refine (bytesOf_any [h, l] (by simp) w4).mono ?_
                rw [HBL.out]
                rcases hbo : byteOf h l with _ | b
                · rintro e w5 ⟨rfl, hb5⟩
                  have HF : Hid (res = none) := Lib.hid (by rw [HRQ.out, HU.out, HUN.out, hbo]; rfl)
                  have HB5 : Hid (Below w2.heap.size w2 w5) := HBW.out.trans (hb5.mono hwb)
                  clear hb5 hbo
                  go_wp2_with fail
                  refine ⟨rfl, ?_⟩
                  rw [HF.out]
                  exact ⟨rfl, gb_trans HG.out (gb_below pg HB5.out)⟩
                · rintro e w5 ⟨v, rfl, ho5, hb5⟩
                  have HU2 : Hid (unesc q = (unesc s'').map ((o ++ [b]) ++ ·)) := Lib.hid (by rw [HU.out, HUN.out, hbo, Option.bind_some, map_app])
                  have HB5 : Hid (Below w2.heap.size w2 w5) := HBW.out.trans (hb5.mono hwb)
                  have HBr5 := Lib.hid (builder_keep HBr.out hb5)
                  have HZ5 : Hid (w3.heap.size ≤ w5.heap.size) := Nat.le_trans HSZ.out hb5.size
                  have hw5 := HB5.out.size
                  obtain ⟨g5, cap5, rfl, hg5, hg5', hcap5, hcl5⟩ := own_read ho5 (by simp)
                  have hne5 : g5 ≠ w2.heap.size := by have := HBG.out; have := HSZ.out; omega
                  have HCL5 : Hid (∀ (j : Nat) (u : Value), [Value.int .u8 (b.toNat : Int)][j]? = some u → w5.cell? ⟨g5, j, none⟩ = some u) := Lib.hid fun j u hu => by
                    have := hcl5 j u hu
                    rwa [Nat.zero_add] at this
                  clear hb5 hbo ho5 hcl5
                  go_wp2_with fail
                  refine (writeRow_any w2.heap.size w2.heap.size _ g5 1 cap5 [.int .u8 (b.toNat : Int)] w5 HBr5.out rfl HCL5.out hg5' hne5 (by intro u hu; simp at hu; subst hu; rfl) (by rw [Lib.byteCells_length]; omega) hw5).mono ?_
                  rintro e w6 ⟨rfl, h6, hb6⟩
                  have HB6 : Hid (Below w2.heap.size w2 w6) := HB5.out.trans hb6
                  have HZ6 : Hid (w3.heap.size ≤ w6.heap.size) := Nat.le_trans HZ5.out hb6.size
                  have HBr6 : Hid (Lib.IsBuilder 81 5 w2.heap.size w2.heap.size (byteCells (o ++ [b])) w6) := Lib.hid (.inr (by rw [cells_snoc]; exact h6))
                  clear h6 hb6
                  go_wp2_with fail
                  go_roundw
                  case rel => exact ⟨s'', _, rfl, HU2, Lib.hid (by rw [List.length_append]; simp; omega), HBr6, HB6, HZ6⟩
                  case measure => simp only [strLen, S_size, List.length_cons]; omega
            · have hi1 : ∀ W, (Instr.index 9 (.string (S (92 :: d :: s'))) (.int .i64 1)).run Tryz.prog W = .ok (.int .u8 (d.toNat : Int)) W := S_idx (92 :: d :: s') 1 (by simp)
              have hs2 : ∀ W, (Instr.slice 9 (.string (S (92 :: d :: s'))) (some (.int .i64 2)) none none).run Tryz.prog W = .ok (.string (S s')) W := S_from (92 :: d :: s') 2 (by simp)
              have HU2 : Hid (unesc q = (unesc s').map ((o ++ [d]) ++ ·)) := Lib.hid (by
                rw [HU.out, unesc_d d s' (by
                  by_cases hd : d = 120
                  · refine Or.inr (Nat.lt_of_not_le fun h2 => hx ⟨hd, h2⟩)
                  · exact Or.inl hd), map_app])
              obtain ⟨pf, hpf⟩ : ∃ b, Lib.hasPrefix (92 :: d :: s') [92, 120] = b := ⟨_, rfl⟩
              have hpf2 : pf = true → d = 120 := by
                intro e
                rw [e, pre92, decide_eq_true_eq] at hpf
                simp only [List.take_succ_cons, List.take_zero, List.cons.injEq, true_and, and_true] at hpf
                exact hpf
              go_wp2_with fail
              refine (hasPre_any (92 :: d :: s') [92, 120] wr).mono ?_
              rintro e w4 ⟨rfl, rfl⟩
              rw [hpf]
              clear hpf
              have hlen2 : pf = true → s'.length < 2 := fun e => by
                have := hpf2 e
                by_cases h2 : 2 ≤ s'.length
                · exact absurd ⟨this, h2⟩ hx
                · omega
              clear hx hpf2
              cases pf with
              | true =>
                have h4 := hlen2 rfl
                clear hlen2
                go_wp2_with fail
                refine (writeByte_any w2.heap.size w2.heap.size _ _ w4 HBr.out (by rw [Lib.byteCells_length]; omega) hwb).mono ?_
                rintro e w5 ⟨rfl, h5, hb5⟩
                have HB5 : Hid (Below w2.heap.size w2 w5) := HBW.out.trans hb5
                have HZ5 : Hid (w3.heap.size ≤ w5.heap.size) := Nat.le_trans HSZ.out hb5.size
                have HBr5 : Hid (Lib.IsBuilder 81 5 w2.heap.size w2.heap.size (byteCells (o ++ [d])) w5) := Lib.hid (.inr (by rw [cells_snoc]; exact h5))
                clear h5 hb5
                go_wp2_with fail
                go_roundw
                case rel => exact ⟨s', _, rfl, HU2, Lib.hid (by rw [List.length_append]; simp; omega), HBr5, HB5, HZ5⟩
                case measure => simp only [strLen, S_size, List.length_cons]; omega
              | false =>
                clear hlen2
                go_wp2_with fail
                refine (writeByte_any w2.heap.size w2.heap.size _ _ w4 HBr.out (by rw [Lib.byteCells_length]; omega) hwb).mono ?_
                rintro e w5 ⟨rfl, h5, hb5⟩
                have HB5 : Hid (Below w2.heap.size w2 w5) := HBW.out.trans hb5
                have HZ5 : Hid (w3.heap.size ≤ w5.heap.size) := Nat.le_trans HSZ.out hb5.size
                have HBr5 : Hid (Lib.IsBuilder 81 5 w2.heap.size w2.heap.size (byteCells (o ++ [d])) w5) := Lib.hid (.inr (by rw [cells_snoc]; exact h5))
                clear h5 hb5
                go_wp2_with fail
                go_roundw
                case rel => exact ⟨s', _, rfl, HU2, Lib.hid (by rw [List.length_append]; simp; omega), HBr5, HB5, HZ5⟩
                case measure => simp only [strLen, S_size, List.length_cons]; omega
end Go.Proofs.YtepalbldleegiaaGreatDoor.sh
