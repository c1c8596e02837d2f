/-
  The document's digit and readNumber: walked.
  Conditions: none but lengths that memory can hold.
  The document's readText: walked.
  Conditions: a part of at most a megabyte.
  The document's cut of a line at its blanks: walked.
  Conditions: a line of at most a megabyte.
  A region that draws its order, whose last operation waits for all the others: what the last one writes may be read by the others.
  Conditions: a condition on the world that holds behind each operation but the last.
  The document's reader of a request out of the parts of a line: walked.
  Conditions: at most a megabyte of parts, each of at most a megabyte.
  The document's read: walked.
  Conditions: a line of at most a megabyte.
  Plain law: what the document reads of a line lies within the bounds of a command.
  Conditions: a line of at most 4096 bytes.
  The law's spoiling of a command's lists: walked.
  Conditions: lists of at most a megabyte, in memory of their own.
  The document's Parse: walked.
  Conditions: a line of at most a megabyte.
  The law ShellParses: walked.
  Conditions: a line of at most a megabyte; the tables are as they were laid.
-/
import Derived.Test.YtepalbldleegiaaGreatDoorSwd
import Derived.Test.YtepalbldleegiaaGreatDoorShd
import Derived.Test.YtepalbldleegiaaGreatDoorSzl
import Derived.Test.YtepalbldleegiaaGreatDoorSpe
import Derived.OrdersHeld
import Derived.Deep.RegionLaw
import Derived.Lib.Hide
import Derived.Test.YtepalbldleegiaaGreatDoorRows
import Derived.Test.YtepalbldleegiaaGreatDoorSzi
import Derived.Test.YtepalbldleegiaaGreatDoorSph
import Derived.Test.YtepalbldleegiaaGreatDoorSpn
import Derived.Test.YtepalbldleegiaaGreatDoorSpi
import Derived.Laws.OwnMore
import Derived.Test.YtepalbldleegiaaGreatDoorSzk
namespace Go.Proofs.YtepalbldleegiaaGreatDoor.sh
open Go.RowKit
open Go.Lib (itoa decDigits atoiAll)

theorem ret_u8 {a b : Int} (h : a = b) : Ending.returned (.int .u8 a) = .returned (.int .u8 b) := by rw [h]
set_option maxRecDepth 100000 in
theorem digR_num (c : UInt8) : ((digR c).toNat : Int) = if 97 ≤ (c.toNat : Int) ∧ (c.toNat : Int) ≤ 102 then (c.toNat : Int) - 87 else if 48 ≤ (c.toNat : Int) ∧ (c.toNat : Int) ≤ 57 then (c.toNat : Int) - 48 else 0 := by
  have h : ∀ i : Fin 256, ((digR (UInt8.ofNat i.val)).toNat : Int) = if 97 ≤ (i.val : Int) ∧ (i.val : Int) ≤ 102 then (i.val : Int) - 87 else if 48 ≤ (i.val : Int) ∧ (i.val : Int) ≤ 57 then (i.val : Int) - 48 else 0 := by decide
  have := h ⟨c.toNat, c.toNat_lt⟩
  simp only [UInt8.ofNat_toNat] at this
  exact this

set_option maxRecDepth 100000 in
set_option maxHeartbeats 4000000 in
theorem rdigit_any (c : UInt8) (w : World) : Calls Tryz.prog 72 #[.int .u8 (c.toNat : Int)] w fun e w' => e = .returned (.int .u8 ((digR c).toNat : Int)) ∧ w' = w := by
  have hd := Lib.hid (digR_num c)
  have hc := c.toNat_lt
  obtain ⟨n, hn⟩ : ∃ n : Int, (c.toNat : Int) = n := ⟨_, rfl⟩
  rw [hn] at hd ⊢
  have h0 : 0 ≤ n := by omega
  have h1 : n ≤ 255 := by omega
  clear hn hc
  go_enter Tryz.func72, Tryz.ntmps72
  by_cases a : 97 ≤ n
  · by_cases b : n ≤ 102
    · have HV : Hid (((digR c).toNat : Int) = n - 87) := Lib.hid (by rw [hd.out, if_pos ⟨a, b⟩])
      go_wp2_with fail
      go_ret
      exact ⟨ret_u8 (by have := HV.out; omega), rfl⟩
    · have HV : Hid (((digR c).toNat : Int) = 0) := Lib.hid (by rw [hd.out, if_neg (by omega), if_neg (by omega)])
      have b2 : ¬ n ≤ 57 := by omega
      have b3 : 48 ≤ n := by omega
      go_wp2_with fail
      go_ret
      exact ⟨ret_u8 (by have := HV.out; omega), rfl⟩
  · by_cases a2 : 48 ≤ n
    · by_cases b : n ≤ 57
      · have HV : Hid (((digR c).toNat : Int) = n - 48) := Lib.hid (by rw [hd.out, if_neg (by omega), if_pos ⟨a2, b⟩])
        go_wp2_with fail
        go_ret
        exact ⟨ret_u8 (by have := HV.out; omega), rfl⟩
      · have HV : Hid (((digR c).toNat : Int) = 0) := Lib.hid (by rw [hd.out, if_neg (by omega), if_neg (by omega)])
        go_wp2_with fail
        go_ret
        exact ⟨ret_u8 (by have := HV.out; omega), rfl⟩
    · have HV : Hid (((digR c).toNat : Int) = 0) := Lib.hid (by rw [hd.out, if_neg (by omega), if_neg (by omega)])
      go_wp2_with fail
      go_ret
      exact ⟨ret_u8 (by have := HV.out; omega), rfl⟩

def negB (s : Bs) : Bool := decide (s.head? = some 45)
def digsN (s : Bs) (j : Nat) : Int := rdN wrap64 0 (if negB s = true then (s.take j).drop 1 else s.take j)
theorem digsN_snoc (s : Bs) (j : Nat) (hj : j < s.length) (h : ¬ (j = 0 ∧ negB s = true)) : digsN s (j + 1) = wrap64 (wrap64 (digsN s j * 10) - ((s[j] - 48 : UInt8).toNat : Int)) := by
  unfold digsN
  rw [List.take_succ_eq_append_getElem hj]
  split
  · rename_i hn
    have h0 : j ≠ 0 := fun e => h ⟨e, hn⟩
    rw [List.drop_append_of_le_length (by rw [List.length_take]; omega), rdN_append]
    rfl
  · rw [rdN_append]
    rfl
theorem digsN_min (s : Bs) (m : Nat) (hm : m = min s.length 20) : readN wrap64 s = if negB s = true then digsN s m else wrap64 (-(digsN s m)) := by
  have ht : s.take m = s.take 20 := by
    rw [hm]
    by_cases h : s.length ≤ 20
    · rw [Nat.min_eq_left h, List.take_of_length_le (Nat.le_refl _), List.take_of_length_le h]
    · rw [Nat.min_eq_right (by omega)]
  unfold readN digsN negB
  rw [ht]
  by_cases h : s.head? = some 45
  · rw [if_pos h, if_pos (by simpa using h), if_pos (by simpa using h)]
  · rw [if_neg h, if_neg (by simpa using h), if_neg (by simpa using h)]
theorem sub48 (c : UInt8) : ((c - 48 : UInt8).toNat : Int) = ((c.toNat : Int) - 48) % 256 := by
  have h : (c - 48 : UInt8).toNat = (256 - 48 + c.toNat) % 256 := by rw [UInt8.toNat_sub]; rfl
  have hc := c.toNat_lt
  omega
theorem ret_i64 {a b : Int} (h : a = b) : Ending.returned (.int .i64 a) = .returned (.int .i64 b) := by rw [h]

set_option maxRecDepth 100000 in
set_option maxHeartbeats 4000000 in
theorem rnum_any (s : Bs) (hs : s.length ≤ 1048576) (w : World) : Calls Tryz.prog 70 #[.string (S s)] w fun e w' => e = .returned (.int .i64 (readN wrap64 s)) ∧ w' = w := by
  have hsz : (S s).size = s.length := S_size _
  obtain ⟨m, hm⟩ : ∃ m, m = min s.length 20 := ⟨_, rfl⟩
  have HRN := Lib.hid (digsN_min s m hm)
  have hm1 : m ≤ s.length := by omega
  have hm2 : m ≤ 20 := by omega
  have hm3 : m = s.length ∨ m = 20 := by omega
  clear hm
  obtain ⟨ng, hng⟩ : ∃ b, negB s = b := ⟨_, rfl⟩
  rw [hng] at HRN
  have HNG := Lib.hid hng
  clear hng
  obtain ⟨sl, hsl⟩ : ∃ n, s.length = n := ⟨_, rfl⟩
  rw [hsl] at hsz hm1 hm3 hs
  have HSL := Lib.hid hsl
  clear hsl
  go_enter Tryz.func70, Tryz.ntmps70
  go_wp2_with fail
  go_loopw [3, 4, 5] (fun s3 s4 i wr => ∃ (j : Nat) (n : Int), j ≤ m ∧ i = .int .i64 (j : Int) ∧ s3 = .int .i64 n ∧ s4 = .bool (decide (0 < j) && ng) ∧ Hid (n = digsN s j) ∧ wr = w) (fun _ _ i _ => m - (intOf i).toNat)
  case atStart => exact ⟨0, 0, Nat.zero_le _, rfl, rfl, by simp, Lib.hid (by unfold digsN; split <;> rfl), rfl⟩
  case round =>
    obtain ⟨j, n, hj, rfl, rfl, rfl, HN, rfl⟩ := hrel
    by_cases hlt : j < m
    · have hlA : j < s.length := by rw [HSL.out]; omega
      have hix := S_idx s j hlA
      have hlt2 : j < sl := by omega
      have hlt3 : j < 20 := by omega
      have hsub := sub48 s[j]
      have HSN : Hid (¬ (j = 0 ∧ ng = true) → digsN s (j + 1) = wrap64 (wrap64 (n * 10) - (((s[j].toNat : Int) - 48) % 256))) := Lib.hid fun h => by rw [digsN_snoc s j hlA (by rw [HNG.out]; exact h), hsub, HN.out]
      have hh : j = 0 → (ng = true ↔ s[j].toNat = 45) := fun e => by
        subst e
        rw [← HNG.out]
        unfold negB
        rw [decide_eq_true_eq, List.head?_eq_getElem?, List.getElem?_eq_getElem hlA, Option.some.injEq, ← UInt8.toNat_inj]
        rfl
      obtain ⟨c, hc⟩ : ∃ n : Nat, s[j].toNat = n := ⟨_, rfl⟩
      rw [hc] at hix hh HSN
      have hcl : c < 256 := by rw [← hc]; exact s[j].toNat_lt
      clear hc hsub
      by_cases h0 : j = 0
      · subst h0
        cases ng with
        | true =>
          have hc45 : (c : Int) = 45 := by have := (hh rfl).1 rfl; omega
          rw [hc45] at hix
          have hix0 : ∀ W, (Instr.index 9 (.string (S s)) (.int .i64 0)).run Tryz.prog W = .ok (.int .u8 45) W := hix
          clear hix
          have HN1 : Hid (n = digsN s (0 + 1)) := Lib.hid (by
            rw [HN.out]
            unfold digsN
            rw [HNG.out, if_pos rfl, if_pos rfl]
            congr 1
            rw [List.take_zero, List.drop_nil]
            exact (List.drop_eq_nil_of_le (by rw [List.length_take]; omega)).symm)
          clear hh HSN hc45
          go_wp2_with fail
          go_roundw
          case rel => exact ⟨0 + 1, n, by omega, by go_num, rfl, by simp, HN1, trivial⟩
          case measure => simp [intOf]; omega
        | false =>
          have hc45 : ¬ (c : Int) = 45 := fun e => by have := (hh rfl).2 (by omega); cases this
          have HN1 := Lib.hid (HSN.out (by simp))
          have hix0 : ∀ W, (Instr.index 9 (.string (S s)) (.int .i64 0)).run Tryz.prog W = .ok (.int .u8 (c : Int)) W := hix
          clear hh HSN hix
          go_wp2_with fail
          go_roundw
          case rel => exact ⟨0 + 1, _, by omega, by go_num, rfl, by simp, Lib.hid HN1.out.symm, trivial⟩
          case measure => simp [intOf]; omega
      · have HN1 := Lib.hid (HSN.out (fun x => h0 x.1))
        have h0' : ¬ (j : Int) = 0 := by omega
        have hdj : (decide (0 < j) && ng) = (decide (0 < j + 1) && ng) := by rw [decide_eq_true (by omega : 0 < j), decide_eq_true (by omega : 0 < j + 1)]
        have HDJ := Lib.hid hdj
        clear hh HSN h0 hdj
        go_wp2_with fail
        go_roundw
        case rel => exact ⟨j + 1, _, by omega, by go_num, rfl, by rw [HDJ.out], Lib.hid HN1.out.symm, trivial⟩
        case measure => simp [intOf]; omega
    · obtain rfl : m = j := by omega
      have HSG : Hid ((decide (0 < m) && ng) = ng) := Lib.hid (by
        cases ng with
        | false => simp
        | true =>
          have h1 := HNG.out
          unfold negB at h1
          rw [decide_eq_true_eq] at h1
          have : 0 < s.length := by
            cases s with
            | nil => simp at h1
            | cons a l => simp
          rw [HSL.out] at this
          simp
          omega)
      rw [HSG.out]
      have hor : ¬ (m < sl ∧ m < 20) := by omega
      by_cases ha : m < sl
      · have hb : ¬ m < 20 := by omega
        cases ng with
        | true =>
          go_wp2_with fail
          go_ret
          exact ⟨ret_i64 (by rw [HRN.out, if_pos trivial]; exact HN.out), rfl⟩
        | false =>
          go_wp2_with fail
          go_ret
          exact ⟨ret_i64 (by rw [HRN.out, if_neg Bool.false_ne_true, ← HN.out]), rfl⟩
      · cases ng with
        | true =>
          go_wp2_with fail
          go_ret
          exact ⟨ret_i64 (by rw [HRN.out, if_pos trivial]; exact HN.out), rfl⟩
        | false =>
          go_wp2_with fail
          go_ret
          exact ⟨ret_i64 (by rw [HRN.out, if_neg Bool.false_ne_true, ← HN.out]), rfl⟩
end Go.Proofs.YtepalbldleegiaaGreatDoor.sh

namespace Go.Proofs.YtepalbldleegiaaGreatDoor.sh
open Go.RowKit
open Go.Lib (itoa decDigits byteCells atoiAll)

theorem digR_lt (c : UInt8) : (digR c).toNat < 16 := by
  have := digR_num c
  split at this
  · omega
  · split at this <;> omega
theorem w64_in (j k : Nat) {sl : Nat} (hs : sl ≤ 1048576) (h : j + k ≤ sl + 3) : IntKind.i64.wrap ((j : Int) + (k : Int)) = (j : Int) + (k : Int) := by
  rw [IntKind.wrap_i64]
  omega
theorem v64_in (j k : Nat) {sl : Nat} (hs : sl ≤ 1048576) (h : j + k ≤ sl + 3) : wrap64 ((j : Int) + (k : Int)) = (j : Int) + (k : Int) := by
  unfold wrap64
  omega
theorem u8_one (n : Nat) (h : n < 16) : IntKind.u8.wrap ((n : Int) * 16) = (n : Int) * 16 := by
  rw [IntKind.wrap_u8]
  omega
theorem u8_two (n m : Nat) (y : UInt8) (h : n < 16) (h2 : m < 16) (e : (n * 16 + m : Int) = (y.toNat : Int)) : IntKind.u8.wrap ((n : Int) * 16 + (m : Int)) = (y.toNat : Int) := by
  rw [IntKind.wrap_u8]
  omega
theorem u8_one' (n : Nat) (h : n < 16) : ((n : Int) * 16) % 256 = (n : Int) * 16 := by omega
theorem u8_two' (n m : Nat) (y : UInt8) (h : n < 16) (h2 : m < 16) (e : (n * 16 + m : Int) = (y.toNat : Int)) : ((n : Int) * 16 + (m : Int)) % 256 = (y.toNat : Int) := by omega
theorem conv_row {w : World} {B : Nat} {v : Value} {l : Bs} (h : w.ownsRow B 5 1 v l.length (byteCells l)) : (convert 25 9 v).run Tryz.prog w = .ok (.string (S l)) w := by
  rcases h.2 with ⟨rfl, h0⟩ | ⟨g, cap, cur, rfl, -, hg, -⟩
  · obtain rfl : l = [] := List.eq_nil_of_length_eq_zero h0
    rw [run_convert_bytes_string w _ _ _ none 0 0 Tryz.underlying25 Tryz.underlying5 Tryz.underlying9]
    simp [S, Conv.bytesToString]
    rfl
  · refine run_convert_bytes_back _ _ _ _ _ cap l Tryz.underlying25 Tryz.underlying5 Tryz.underlying9 fun j hj => ?_
    refine h.cells (g := g) rfl j _ ?_
    simp only [byteCells, List.getElem?_map, List.getElem?_eq_getElem hj, Option.map_some]
theorem byteCells_snoc (l : Bs) (c : UInt8) : byteCells (l ++ [c]) = byteCells l ++ [.int .u8 (c.toNat : Int)] := by simp [byteCells]
theorem drop_two (s : Bs) (j : Nat) (h : j + 1 < s.length) : s.drop j = s[j] :: s[j + 1] :: s.drop (j + 2) := by
  rw [List.drop_eq_getElem_cons (by omega), List.drop_eq_getElem_cons h]
theorem drop_four (s : Bs) (j : Nat) (h : j + 3 < s.length) : s.drop j = s[j] :: s[j + 1] :: s[j + 2] :: s[j + 3] :: s.drop (j + 4) := by
  rw [drop_two s j (by omega), drop_two s (j + 2) (by omega)]
theorem rdT_short {s : Bs} (h : s.length ≤ 1) : rdT s = [] := by
  match s, h with
  | [], _ => simp [rdT]
  | [_], _ => simp [rdT]
theorem rdT_esc2 (d : UInt8) (s : Bs) (h : d ≠ 120 ∨ s.length ≤ 1) : rdT (92 :: d :: s) = d :: rdT s := by
  rcases h with h | h
  · exact rdT_two d s h
  · match s, h with
    | [], _ =>
      conv => lhs; rw [rdT, if_pos rfl]
      simp [rdT]
    | [e], _ => conv => lhs; rw [rdT, if_pos rfl]

set_option maxRecDepth 100000 in
set_option maxHeartbeats 8000000 in
theorem rrtext_any (s : Bs) (hs : s.length ≤ 1048576) (w : World) : Calls Tryz.prog 88 #[.string (S s)] w fun e w' => e = .returned (.string (S (readTR s))) ∧ Below w.heap.size w w' := by
  obtain ⟨iB, hiB, hb0_, hb1_, hb2_⟩ := info_parts infoByte
  have hsz : (S s).size = s.length := S_size _
  obtain ⟨sl, hsl⟩ : ∃ n, s.length = n := ⟨_, rfl⟩
  rw [hsl] at hsz hs
  have HSL := Lib.hid hsl
  clear hsl
  go_enter Tryz.func88, Tryz.ntmps88
  by_cases h2 : sl < 2
  · have HF : Hid (readTR s = s) := Lib.hid (by unfold readTR; rw [if_pos (Or.inl (by rw [HSL.out]; exact h2))])
    go_wp2_with fail
    go_ret
    exact ⟨ret_str (by rw [HF.out]), Below.refl _ _⟩
  · have hl0 : 0 < s.length := by rw [HSL.out]; omega
    have hix := S_idx s 0 hl0
    have hh0 : s.head? = some s[0] := by rw [List.head?_eq_getElem?, List.getElem?_eq_getElem hl0]
    obtain ⟨c0, hc0⟩ : ∃ c, s[0] = c := ⟨_, rfl⟩
    rw [hc0] at hix hh0
    have hix0 : ∀ W, (Instr.index 9 (.string (S s)) (.int .i64 0)).run Tryz.prog W = .ok (.int .u8 (c0.toNat : Int)) W := hix
    have HH0 := Lib.hid hh0
    clear hix hc0 hh0
    by_cases hq : c0 = 34
    · subst hq
      have HF : Hid (readTR s = rdT (s.drop 1)) := Lib.hid (by
        unfold readTR
        rw [if_neg]
        rintro (h | h)
        · rw [HSL.out] at h; omega
        · exact h HH0.out)
      have hix1 : ∀ W, (Instr.index 9 (.string (S s)) (.int .i64 0)).run Tryz.prog W = .ok (.int .u8 34) W := hix0
      clear hix0
      go_wp2_with fail
      go_loopw [3, 4] (fun v i wr => ∃ (j : Nat) (l : Bs), 1 ≤ j ∧ j ≤ sl ∧ i = .int .i64 (j : Int) ∧ Hid (rdT (s.drop 1) = l ++ rdT (s.drop j)) ∧ Hid (l.length ≤ j) ∧ Hid (wr.ownsRow w.heap.size 5 1 v l.length (byteCells l)) ∧ Hid (Below w.heap.size w wr)) (fun _ i _ => sl - (intOf i).toNat)
      case atStart => exact ⟨1, [], Nat.le_refl _, by omega, rfl, Lib.hid rfl, Lib.hid (Nat.zero_le _), World.ownsRow_nil _ _ _ _, Below.refl _ _⟩
      case round =>
        obtain ⟨j, l, hj1, hj2, rfl, HRD, HLL, HOW, HB⟩ := hrel
        by_cases hlt : j + 1 < sl
        · have hlA : j + 1 < s.length := by rw [HSL.out]; exact hlt
          have hix := S_idx s j (by omega)
          have hix2 : ∀ W, (Instr.index 9 (.string (S s)) (.int .i64 ((j : Int) + 1))).run Tryz.prog W = .ok (.int .u8 (s[j + 1].toNat : Int)) W := S_idx s (j + 1) hlA
          have HDR := Lib.hid (drop_two s j hlA)
          have HLE : Hid (l.length ≤ 1048576) := Lib.hid (by have := HLL.out; omega)
          by_cases h92 : s[j] = 92
          · rw [h92] at hix
            by_cases h120 : s[j + 1] = 120 ∧ j + 3 < sl
            · obtain ⟨h120, h3⟩ := h120
              have hlB : j + 3 < s.length := by rw [HSL.out]; exact h3
              rw [h120] at hix2
              have hix3 : ∀ W, (Instr.index 9 (.string (S s)) (.int .i64 ((j : Int) + 2))).run Tryz.prog W = .ok (.int .u8 (s[j + 2].toNat : Int)) W := S_idx s (j + 2) (by omega)
              have hix4 : ∀ W, (Instr.index 9 (.string (S s)) (.int .i64 ((j : Int) + 3))).run Tryz.prog W = .ok (.int .u8 (s[j + 3].toNat : Int)) W := S_idx s (j + 3) hlB
              have HN : Hid (rdT (s.drop 1) = (l ++ [digR s[j + 2] * 16 + digR s[j + 3]]) ++ rdT (s.drop (j + 4))) := Lib.hid (by
                rw [HRD.out, drop_four s j hlB, h92, h120, rdT_hex]
                simp)
              obtain ⟨h, hh⟩ : ∃ d, s[j + 2] = d := ⟨_, rfl⟩
              obtain ⟨e, he⟩ : ∃ d, s[j + 3] = d := ⟨_, rfl⟩
              rw [hh] at hix3 HN
              rw [he] at hix4 HN
              obtain ⟨y, hy⟩ : ∃ y, digR h * 16 + digR e = y := ⟨_, rfl⟩
              have HY : Hid (((digR h).toNat * 16 + (digR e).toNat : Int) = (y.toNat : Int)) := Lib.hid (by
                have h1 := digR_lt h
                have h2 := digR_lt e
                rw [← hy, UInt8.toNat_add, UInt8.toNat_mul, show UInt8.toNat 16 = 16 from rfl]
                omega)
              rw [hy] at HN
              have HL2 : Hid ((l ++ [y]).length ≤ j + 4) := Lib.hid (by rw [List.length_append]; have := HLL.out; simp; omega)
              have hdl1 := digR_lt h
              have hdl2 := digR_lt e
              clear hh he hy h120 h92 HRD HDR
              have HDG1 : Hid (∀ W, Calls Tryz.prog 72 #[.int .u8 (h.toNat : Int)] W fun e' w' => e' = .returned (.int .u8 ((digR h).toNat : Int)) ∧ w' = W) := Lib.hid fun W => rdigit_any h W
              have HDG2 : Hid (∀ W, Calls Tryz.prog 72 #[.int .u8 (e.toNat : Int)] W fun e' w' => e' = .returned (.int .u8 ((digR e).toNat : Int)) ∧ w' = W) := Lib.hid fun W => rdigit_any e W
              obtain ⟨n1, hn1⟩ : ∃ n, (digR h).toNat = n := ⟨_, rfl⟩
              obtain ⟨n2, hn2⟩ : ∃ n, (digR e).toNat = n := ⟨_, rfl⟩
              rw [hn1] at hdl1 HY HDG1
              rw [hn2] at hdl2 HY HDG2
              clear hn1 hn2
              go_upto_region 8 with fail
              have hM1 : l.length + 1 ≤ maxLen := le_maxLen (by have := HLE.out; omega)
              have hM2 : (l.length + 1) * 1 ≤ 140737488355328 := by have := HLE.out; omega
              have hjk2 : j + 2 ≤ sl + 3 := by omega
              have hjk3 : j + 3 ≤ sl + 3 := by omega
              have W2 : IntKind.i64.wrap ((j : Int) + 2) = (j : Int) + 2 := w64_in j 2 hs hjk2
              have W3 : IntKind.i64.wrap ((j : Int) + 3) = (j : Int) + 3 := w64_in j 3 hs hjk3
              have V2 : wrap64 ((j : Int) + 2) = (j : Int) + 2 := v64_in j 2 hs hjk2
              have V3 : wrap64 ((j : Int) + 3) = (j : Int) + 3 := v64_in j 3 hs hjk3
              have U1 := u8_one n1 hdl1
              have U2 := u8_two n1 n2 y hdl1 hdl2 HY.out
              have X1 := u8_one' n1 hdl1
              have X2 := u8_two' n1 n2 y hdl1 hdl2 HY.out
              have HOWd : Hid ((wr.drew.alloc (.cells #[.int .u8 (y.toNat : Int)] 5)).ownsRow w.heap.size 5 1 u3 l.length (byteCells l)) := Lib.hid ((own_keep (w := wr) HOW.out (Below.refl _ _).drew).alloc _)
              have hM3 : w.heap.size ≤ (wr.drew.alloc (.cells #[.int .u8 (y.toNat : Int)] 5)).heap.size := le_alloc _ HB.out.size
              have hB0 : Below w.heap.size w wr := HB.out
              have hBd : Below w.heap.size w wr.drew := HB.out.trans ((Below.refl wr.heap.size wr).drew.mono HB.out.size)
              go_region_held3 (fun w' => Below w.heap.size w w') (first | assumption | exact hBd.alloc hBd.size _ | exact hB0.alloc hB0.size _ | fail)
                (first
                  | (go_at_call 72; (with_reducible refine (HDG1.out _).mono ?_); rintro e1 w1 ⟨rfl, rfl⟩)
                  | (go_at_call 72; (with_reducible refine (HDG2.out _).mono ?_); rintro e1 w1 ⟨rfl, rfl⟩)
                  | (refine step_append_own rfl (.tmp 39) (.tmp 52) 25 rfl w.heap.size 5 iB _ 1 1 Tryz.underlying25 hiB hb0_ hb1_ hb2_ rfl (by decide) u3 l.length (byteCells l) rfl HOWd.out ⟨wr.drew.heap.size, 0, none⟩ 1 1 [.int .u8 (y.toNat : Int)] rfl rfl (built_cells wr.drew _ _ _ rfl) (fun u hu => by rw [List.mem_singleton] at hu; subst hu; rfl) hM1 hM2 hM3 ?_; intro v6 w6 hown6 hg6; have hB6 : Below w.heap.size w w6 := (hBd.alloc hBd.size _).grown hg6 hM3 (fun q hq => (HOWd.out.lt q hq).1); have HO6 : Hid (w6.ownsRow w.heap.size 5 1 v6 (l ++ [y]).length (byteCells (l ++ [y]))) := Lib.hid (by rw [List.length_append, byteCells_snoc]; exact hown6); clear hown6 hg6)
                  | fail)
              all_goals
                have HB6 := Lib.hid hB6
                clear W2 W3 V2 V3 U1 U2 X1 X2 hB6 hB0 hBd hM1 hM2 hM3 HOWd HOW HDG1 HDG2 hix hix2 hix3 hix4
                go_wp2_with fail
                go_roundw
                case rel => exact ⟨j + 4, l ++ [y], by omega, by omega, by go_num, HN, HL2, HO6, HB6⟩
                case measure => simp [intOf]; omega
            · have hd : (s[j + 1].toNat : Int) = 120 → sl ≤ j + 3 := fun e => by
                have : s[j + 1] = 120 := UInt8.toNat_inj.1 (by show s[j + 1].toNat = 120; omega)
                by_cases h : j + 3 < sl
                · exact absurd ⟨this, h⟩ h120
                · omega
              have HN : Hid (rdT (s.drop 1) = (l ++ [s[j + 1]]) ++ rdT (s.drop (j + 2))) := Lib.hid (by
                rw [HRD.out, HDR.out, h92, rdT_esc2 _ _ (by
                  by_cases h : s[j + 1] = 120
                  · refine Or.inr ?_
                    rw [List.length_drop, HSL.out]
                    have := hd (by rw [h]; rfl)
                    omega
                  · exact Or.inl h)]
                simp)
              obtain ⟨d, hdd⟩ : ∃ d, s[j + 1] = d := ⟨_, rfl⟩
              rw [hdd] at hix2 hd HN
              have HL2 : Hid ((l ++ [d]).length ≤ j + 2) := Lib.hid (by rw [List.length_append]; have := HLL.out; simp; omega)
              have HOWa : Hid ((wr.alloc (.cells #[.int .u8 (d.toNat : Int)] 5)).ownsRow w.heap.size 5 1 u3 l.length (byteCells l)) := HOW.out.alloc _
              clear hdd h120 h92 HRD HDR
              by_cases hd1 : (d.toNat : Int) = 120
              · have hj3 : ¬ j + 3 < sl := by have := hd hd1; omega
                rw [hd1] at hix2
                have HOWb : Hid ((wr.alloc (.cells #[.int .u8 120] 5)).ownsRow w.heap.size 5 1 u3 l.length (byteCells l)) := HOW.out.alloc _
                go_wp2_with (first
                  | ((with_reducible refine at_op ⟨_, .call { callee := .builtin .append, args := #[.tmp 60, .tmp 65], argTypes := #[25, 25] }, _, _, _, _⟩ ?_); refine wpList_append_src rfl (.tmp 60) (.tmp 65) 25 rfl w.heap.size 5 iB _ 1 Tryz.underlying25 hiB hb0_ hb1_ hb2_ rfl _ l.length (byteCells l) rfl HOWb.out (some ⟨wr.heap.size, 0, none⟩) 1 1 [.int .u8 120] rfl rfl (Or.inr ⟨_, rfl, built_cells wr _ _ _ rfl⟩) (fun u hu => by rw [List.mem_singleton] at hu; subst hu; rfl) (le_maxLen (by have := HLE.out; omega)) (by have := HLE.out; omega) (le_alloc _ HB.out.size) ?_; intro v6 w6 hown6 hg6; have HB6 : Hid (Below w.heap.size w w6) := (HB.out.alloc HB.out.size _).grown hg6 (le_alloc _ HB.out.size) (fun q hq => (HOWb.out.lt q hq).1); have HO6 : Hid (w6.ownsRow w.heap.size 5 1 v6 (l ++ [d]).length (byteCells (l ++ [d]))) := Lib.hid (by rw [List.length_append, byteCells_snoc, hd1]; exact hown6); clear hown6 hg6)
                  | fail)
                go_roundw
                case rel => exact ⟨j + 2, l ++ [d], by omega, by omega, by go_num, HN, HL2, HO6, HB6⟩
                case measure => simp [intOf]; omega
              · clear hd
                go_wp2_with (first
                  | ((with_reducible refine at_op ⟨_, .call { callee := .builtin .append, args := #[.tmp 60, .tmp 65], argTypes := #[25, 25] }, _, _, _, _⟩ ?_); refine wpList_append_src rfl (.tmp 60) (.tmp 65) 25 rfl w.heap.size 5 iB _ 1 Tryz.underlying25 hiB hb0_ hb1_ hb2_ rfl _ l.length (byteCells l) rfl HOWa.out (some ⟨wr.heap.size, 0, none⟩) 1 1 [.int .u8 (d.toNat : Int)] rfl rfl (Or.inr ⟨_, rfl, built_cells wr _ _ _ rfl⟩) (fun u hu => by rw [List.mem_singleton] at hu; subst hu; rfl) (le_maxLen (by have := HLE.out; omega)) (by have := HLE.out; omega) (le_alloc _ HB.out.size) ?_; intro v6 w6 hown6 hg6; have HB6 : Hid (Below w.heap.size w w6) := (HB.out.alloc HB.out.size _).grown hg6 (le_alloc _ HB.out.size) (fun q hq => (HOWa.out.lt q hq).1); have HO6 : Hid (w6.ownsRow w.heap.size 5 1 v6 (l ++ [d]).length (byteCells (l ++ [d]))) := Lib.hid (by rw [List.length_append, byteCells_snoc]; exact hown6); clear hown6 hg6)
                  | fail)
                go_roundw
                case rel => exact ⟨j + 2, l ++ [d], by omega, by omega, by go_num, HN, HL2, HO6, HB6⟩
                case measure => simp [intOf]; omega
          · have HN : Hid (rdT (s.drop 1) = (l ++ [s[j]]) ++ rdT (s.drop (j + 1))) := Lib.hid (by
              rw [HRD.out, List.drop_eq_getElem_cons (by omega : j < s.length), rdT_plain _ _ h92 (by intro e; have := congrArg List.length e; rw [List.length_drop] at this; simp at this; omega)]
              simp)
            obtain ⟨d, hdd⟩ : ∃ d, s[j] = d := ⟨_, rfl⟩
            rw [hdd] at hix HN h92
            have hd1 : ¬ (d.toNat : Int) = 92 := fun e => h92 (UInt8.toNat_inj.1 (by show d.toNat = 92; omega))
            have HL2 : Hid ((l ++ [d]).length ≤ j + 1) := Lib.hid (by rw [List.length_append]; have := HLL.out; simp; omega)
            have HOWa : Hid ((wr.alloc (.cells #[.int .u8 (d.toNat : Int)] 5)).ownsRow w.heap.size 5 1 u3 l.length (byteCells l)) := HOW.out.alloc _
            clear hdd h92 HRD HDR hix2
            go_wp2_with (first
              | ((with_reducible refine at_op ⟨_, .call { callee := .builtin .append, args := #[.tmp 69, .tmp 73], argTypes := #[25, 25] }, _, _, _, _⟩ ?_); refine wpList_append_src rfl (.tmp 69) (.tmp 73) 25 rfl w.heap.size 5 iB _ 1 Tryz.underlying25 hiB hb0_ hb1_ hb2_ rfl _ l.length (byteCells l) rfl HOWa.out (some ⟨wr.heap.size, 0, none⟩) 1 1 [.int .u8 (d.toNat : Int)] rfl rfl (Or.inr ⟨_, rfl, built_cells wr _ _ _ rfl⟩) (fun u hu => by rw [List.mem_singleton] at hu; subst hu; rfl) (le_maxLen (by have := HLE.out; omega)) (by have := HLE.out; omega) (le_alloc _ HB.out.size) ?_; intro v6 w6 hown6 hg6; have HB6 : Hid (Below w.heap.size w w6) := (HB.out.alloc HB.out.size _).grown hg6 (le_alloc _ HB.out.size) (fun q hq => (HOWa.out.lt q hq).1); have HO6 : Hid (w6.ownsRow w.heap.size 5 1 v6 (l ++ [d]).length (byteCells (l ++ [d]))) := Lib.hid (by rw [List.length_append, byteCells_snoc]; exact hown6); clear hown6 hg6)
              | fail)
            go_roundw
            case rel => exact ⟨j + 1, l ++ [d], by omega, by omega, by go_num, HN, HL2, HO6, HB6⟩
            case measure => simp [intOf]; omega
        · have hj : ¬ (j : Int) < (sl : Int) - 1 := by omega
          have HFF : Hid (readTR s = l) := Lib.hid (by rw [HF.out, HRD.out, rdT_short (by rw [List.length_drop, HSL.out]; omega), List.append_nil])
          have hcv := conv_row HOW.out
          go_wp2_with fail
          go_ret
          exact ⟨ret_str (by rw [HFF.out]), HB.out⟩
    · have HF : Hid (readTR s = s) := Lib.hid (by
        unfold readTR
        rw [if_pos]
        refine Or.inr ?_
        rw [HH0.out]
        simpa using hq)
      have hc : ((c0.toNat : Int) != 34) = true := by
        rw [bne_iff_ne]
        intro e
        apply hq
        apply UInt8.toNat_inj.1
        show c0.toNat = 34
        omega
      go_wp2_with fail
      go_ret
      exact ⟨ret_str (by rw [HF.out]), Below.refl _ _⟩
end Go.Proofs.YtepalbldleegiaaGreatDoor.sh

namespace Go.Proofs.YtepalbldleegiaaGreatDoor.sh
open Go.RowKit
open Go.Lib (itoa decDigits byteCells atoiAll)

/-- what is cut of a line when byte j is the next one -/
def CutAt (s : Bs) (xs : List Bs) (fr j : Nat) (q : Bool) : Prop :=
  (j ≤ s.length ∧ cutL [] false false s = xs ++ cutL ((s.take j).drop fr) q false (s.drop j)) ∨ (j = s.length + 1 ∧ cutL [] false false s = xs ++ [s.drop fr])
theorem CutAt.zero (s : Bs) : CutAt s [] 0 0 false := Or.inl ⟨Nat.zero_le _, by simp⟩
theorem take_more (s : Bs) (fr j : Nat) (h : fr ≤ j) (hj : j < s.length) : (s.take (j + 1)).drop fr = (s.take j).drop fr ++ [s[j]] := by
  rw [List.take_succ_eq_append_getElem hj, List.drop_append_of_le_length (by rw [List.length_take]; omega)]
theorem CutAt.keep {s : Bs} {xs : List Bs} {fr j : Nat} {q q' : Bool} (h : CutAt s xs fr j q) (hf : fr ≤ j) (hj : j < s.length) (hs : step q false s[j] = some (q', false)) : CutAt s xs fr (j + 1) q' := by
  rcases h with ⟨-, h⟩ | ⟨e, -⟩
  · refine Or.inl ⟨by omega, ?_⟩
    rw [h, List.drop_eq_getElem_cons hj, take_more s fr j hf hj]
    simp only [cutL, hs]
  · omega
theorem CutAt.cut {s : Bs} {xs : List Bs} {fr j : Nat} {q : Bool} (h : CutAt s xs fr j q) (hj : j < s.length) (hs : step q false s[j] = none) : CutAt s (xs ++ [(s.take j).drop fr]) (j + 1) (j + 1) false := by
  rcases h with ⟨-, h⟩ | ⟨e, -⟩
  · refine Or.inl ⟨by omega, ?_⟩
    rw [h, List.drop_eq_getElem_cons hj, List.drop_eq_nil_of_le (by rw [List.length_take]; omega : (s.take (j + 1)).length ≤ j + 1)]
    simp only [cutL, hs, List.append_assoc, List.cons_append, List.nil_append]
  · omega
theorem CutAt.two {s : Bs} {xs : List Bs} {fr j : Nat} (h : CutAt s xs fr j true) (hf : fr ≤ j) (hj : j < s.length) (hs : s[j] = 92) : CutAt s xs fr (j + 2) true := by
  have h1 : step true false s[j] = some (true, true) := by rw [hs]; rfl
  rcases h with ⟨-, h⟩ | ⟨e, -⟩
  · by_cases hj2 : j + 1 < s.length
    · refine Or.inl ⟨by omega, ?_⟩
      have h2 : step true true s[j + 1] = some (true, false) := rfl
      rw [h, List.drop_eq_getElem_cons hj, List.drop_eq_getElem_cons hj2, take_more s fr (j + 1) (by omega) hj2, take_more s fr j hf hj]
      simp only [cutL, h1, h2]
    · refine Or.inr ⟨by omega, ?_⟩
      have e1 : (s.take j).drop fr ++ [s[j]] = s.drop fr := by
        rw [← take_more s fr j hf hj, List.take_of_length_le (by omega)]
      rw [h, List.drop_eq_getElem_cons hj, List.drop_eq_nil_of_le (by omega : s.length ≤ j + 1)]
      simp only [cutL, h1, e1]
  · omega
theorem CutAt.done {s : Bs} {xs : List Bs} {fr j : Nat} {q : Bool} (h : CutAt s xs fr j q) (hj : s.length ≤ j) : cutL [] false false s = xs ++ [s.drop fr] := by
  rcases h with ⟨h1, h⟩ | ⟨-, h⟩
  · obtain rfl : j = s.length := by omega
    rw [h, List.drop_length, List.take_length]
    rfl
  · exact h
theorem u8_ne {c : UInt8} (k : UInt8) (h : c ≠ k) : ¬ (c.toNat : Int) = (k.toNat : Int) := fun e => h (UInt8.toNat_inj.1 (by omega))
theorem strV_snoc (xs : List Bs) (x : Bs) : strV (xs ++ [x]) = strV xs ++ [.string (S x)] := by simp [strV]
theorem step_other (q : Bool) (c : UInt8) (h34 : c ≠ 34) (h92 : q = true → c ≠ 92) (h32 : q = false → c ≠ 32) : step q false c = some (q, false) := by
  cases q
  · simp [step, h34, h32 rfl]
  · simp [step, h34, h92 rfl]

def PartsPost (s : Bs) (w : World) (e : Ending) (w' : World) : Prop := ∃ v, e = .returned v ∧ w'.ownsRow w.heap.size 9 1 v (cutL [] false false s).length (strV (cutL [] false false s)) ∧ Below w.heap.size w w'
set_option maxRecDepth 100000 in
set_option maxHeartbeats 8000000 in
theorem rparts_any (s : Bs) (hs : s.length ≤ 1048576) (w : World) : Calls Tryz.prog 69 #[.string (S s)] w (PartsPost s w) := by
  obtain ⟨iB, hiB, hb0_, hb1_, hb2_⟩ := info_parts infoStr
  have hsz : (S s).size = s.length := S_size _
  have HSF : Hid (∀ (fr : Nat), fr ≤ s.length → ∀ W, (Instr.slice 9 (.string (S s)) (some (.int .i64 (fr : Int))) none none).run Tryz.prog W = .ok (.string (S (s.drop fr))) W) := Lib.hid fun fr h W => S_from s fr h W
  have HSS : Hid (∀ (i j : Nat), i ≤ j → j ≤ s.length → ∀ W, (Instr.slice 9 (.string (S s)) (some (.int .i64 (i : Int))) (some (.int .i64 (j : Int))) none).run Tryz.prog W = .ok (.string (S ((s.take j).drop i))) W) := Lib.hid fun i j h h' W => S_slice s i j h h' W
  obtain ⟨sl, hsl⟩ : ∃ n, s.length = n := ⟨_, rfl⟩
  rw [hsl] at hsz hs HSF HSS
  have HSL := Lib.hid hsl
  clear hsl
  go_enter Tryz.func69, Tryz.ntmps69
  go_wp2_with fail
  go_loopw [3, 4, 5, 6] (fun v qv fv i wr => ∃ (j fr : Nat) (q : Bool) (xs : List Bs), fr ≤ j ∧ fr ≤ sl ∧ j ≤ sl + 1 ∧ qv = .bool q ∧ fv = .int .i64 (fr : Int) ∧ i = .int .i64 (j : Int) ∧ Hid (CutAt s xs fr j q) ∧ Hid (xs.length ≤ fr) ∧ Hid (wr.ownsRow w.heap.size 9 1 v xs.length (strV xs)) ∧ Hid (Below w.heap.size w wr)) (fun _ _ _ i _ => sl + 1 - (intOf i).toNat)
  case atStart => exact ⟨0, 0, false, [], Nat.le_refl _, Nat.zero_le _, by omega, rfl, rfl, rfl, Lib.hid (CutAt.zero s), Lib.hid (Nat.le_refl _), World.ownsRow_nil _ _ _ _, Below.refl _ _⟩
  case round =>
    obtain ⟨j, fr, q, xs, hfr, hfs, hj, rfl, rfl, rfl, HCU, HLL, HOW, HB⟩ := hrel
    by_cases hlt : j < sl
    · have hlA : j < s.length := by rw [HSL.out]; exact hlt
      have hix := S_idx s j hlA
      obtain ⟨c, hc⟩ : ∃ c, s[j] = c := ⟨_, rfl⟩
      have HC := Lib.hid hc
      rw [hc] at hix
      clear hc
      by_cases h34 : c = 34
      · subst h34
        have HN : Hid (CutAt s xs fr (j + 1) (!q)) := Lib.hid (HCU.out.keep hfr hlA (by rw [HC.out]; cases q <;> rfl))
        have hix' : ∀ W, (Instr.index 9 (.string (S s)) (.int .i64 (j : Int))).run Tryz.prog W = .ok (.int .u8 34) W := hix
        clear hix
        cases q
        all_goals
          go_wp2_with fail
          go_roundw
          case rel => exact ⟨j + 1, fr, _, xs, by omega, hfs, by omega, rfl, rfl, by go_num, HN, HLL, HOW, HB⟩
          case measure => simp [intOf]; omega
      have n34 : ¬ (c.toNat : Int) = 34 := u8_ne 34 h34
      cases q with
      | true =>
        by_cases h92 : c = 92
        · subst h92
          have HN : Hid (CutAt s xs fr (j + 2) true) := Lib.hid (HCU.out.two hfr hlA HC.out)
          have hix' : ∀ W, (Instr.index 9 (.string (S s)) (.int .i64 (j : Int))).run Tryz.prog W = .ok (.int .u8 92) W := hix
          clear hix n34
          go_wp2_with fail
          go_roundw
          case rel => exact ⟨j + 2, fr, true, xs, by omega, hfs, by omega, rfl, rfl, by go_num, HN, HLL, HOW, HB⟩
          case measure => simp [intOf]; omega
        · have n92 : ¬ (c.toNat : Int) = 92 := u8_ne 92 h92
          have HN : Hid (CutAt s xs fr (j + 1) true) := Lib.hid (HCU.out.keep hfr hlA (by rw [HC.out]; exact step_other _ _ h34 (fun _ => h92) (by simp)))
          by_cases h32 : (c.toNat : Int) = 32
          all_goals
            go_wp2_with fail
            go_roundw
            case rel => exact ⟨j + 1, fr, true, xs, by omega, hfs, by omega, rfl, rfl, by go_num, HN, HLL, HOW, HB⟩
            case measure => simp [intOf]; omega
      | false =>
        by_cases h32 : c = 32
        · subst h32
          have HN : Hid (CutAt s (xs ++ [(s.take j).drop fr]) (j + 1) (j + 1) false) := Lib.hid (HCU.out.cut hlA (by rw [HC.out]; rfl))
          have hix' : ∀ W, (Instr.index 9 (.string (S s)) (.int .i64 (j : Int))).run Tryz.prog W = .ok (.int .u8 32) W := hix
          have hsli := HSS.out fr j hfr (Nat.le_of_lt hlt)
          obtain ⟨p, hp⟩ : ∃ p, (s.take j).drop fr = p := ⟨_, rfl⟩
          rw [hp] at hsli HN
          have HL2 : Hid ((xs ++ [p]).length ≤ j + 1) := Lib.hid (by rw [List.length_append]; have := HLL.out; simp; omega)
          have HLE : Hid (xs.length ≤ 1048576) := Lib.hid (by have := HLL.out; omega)
          have HOWa : Hid ((wr.alloc (.cells #[.string (S p)] 9)).ownsRow w.heap.size 9 1 u3 xs.length (strV xs)) := HOW.out.alloc _
          clear hix n34 hp
          go_wp2_with (first
            | ((with_reducible refine at_op ⟨_, .call { callee := .builtin .append, args := #[.tmp 39, .tmp 44], argTypes := #[43, 43] }, _, _, _, _⟩ ?_); refine wpList_append_src rfl (.tmp 39) (.tmp 44) 43 rfl w.heap.size 9 iB _ 16 Tryz.underlying43 hiB hb0_ hb1_ hb2_ rfl _ xs.length (strV xs) rfl HOWa.out (some ⟨wr.heap.size, 0, none⟩) 1 1 [.string (S p)] rfl rfl (Or.inr ⟨_, rfl, built_cells wr _ _ _ rfl⟩) (fun u hu => by rw [List.mem_singleton] at hu; subst hu; rfl) (le_maxLen (by have := HLE.out; omega)) (by have := HLE.out; omega) (le_alloc _ HB.out.size) ?_; intro v6 w6 hown6 hg6; have HB6 : Hid (Below w.heap.size w w6) := (HB.out.alloc HB.out.size _).grown hg6 (le_alloc _ HB.out.size) (fun q hq => (HOWa.out.lt q hq).1); have HO6 : Hid (w6.ownsRow w.heap.size 9 1 v6 (xs ++ [p]).length (strV (xs ++ [p]))) := Lib.hid (by rw [List.length_append, strV_snoc]; exact hown6); clear hown6 hg6)
            | fail)
          go_roundw
          case rel => exact ⟨j + 1, j + 1, false, xs ++ [p], by omega, by omega, by omega, rfl, by go_num, by go_num, HN, HL2, HO6, HB6⟩
          case measure => simp [intOf]; omega
        · have n32 : ¬ (c.toNat : Int) = 32 := u8_ne 32 h32
          have HN : Hid (CutAt s xs fr (j + 1) false) := Lib.hid (HCU.out.keep hfr hlA (by rw [HC.out]; exact step_other _ _ h34 (by simp) (fun _ => h32)))
          go_wp2_with fail
          go_roundw
          case rel => exact ⟨j + 1, fr, false, xs, by omega, hfs, by omega, rfl, rfl, by go_num, HN, HLL, HOW, HB⟩
          case measure => simp [intOf]; omega
    · have HFF : Hid (cutL [] false false s = xs ++ [s.drop fr]) := Lib.hid (HCU.out.done (by rw [HSL.out]; omega))
      have hsli := HSF.out fr hfs
      obtain ⟨p, hp⟩ : ∃ p, s.drop fr = p := ⟨_, rfl⟩
      rw [hp] at hsli HFF
      have HLE : Hid (xs.length ≤ 1048576) := Lib.hid (by have := HLL.out; omega)
      have HOWa : Hid ((wr.alloc (.cells #[.string (S p)] 9)).ownsRow w.heap.size 9 1 u3 xs.length (strV xs)) := HOW.out.alloc _
      clear hp
      go_wp2_with (first
        | ((with_reducible refine at_op ⟨_, .call { callee := .builtin .append, args := #[.tmp 48, .tmp 52], argTypes := #[43, 43] }, _, _, _, _⟩ ?_); refine wpList_append_src rfl (.tmp 48) (.tmp 52) 43 rfl w.heap.size 9 iB _ 16 Tryz.underlying43 hiB hb0_ hb1_ hb2_ rfl _ xs.length (strV xs) rfl HOWa.out (some ⟨wr.heap.size, 0, none⟩) 1 1 [.string (S p)] rfl rfl (Or.inr ⟨_, rfl, built_cells wr _ _ _ rfl⟩) (fun u hu => by rw [List.mem_singleton] at hu; subst hu; rfl) (le_maxLen (by have := HLE.out; omega)) (by have := HLE.out; omega) (le_alloc _ HB.out.size) ?_; intro v6 w6 hown6 hg6; have HB6 : Hid (Below w.heap.size w w6) := (HB.out.alloc HB.out.size _).grown hg6 (le_alloc _ HB.out.size) (fun q hq => (HOWa.out.lt q hq).1); have HO6 : Hid (w6.ownsRow w.heap.size 9 1 v6 (cutL [] false false s).length (strV (cutL [] false false s))) := Lib.hid (by rw [HFF.out, List.length_append, strV_snoc]; exact hown6); clear hown6 hg6)
        | fail)
      go_ret
      exact ⟨_, rfl, HO6.out, HB6.out⟩
end Go.Proofs.YtepalbldleegiaaGreatDoor.sh

namespace Go.Proofs.YtepalbldleegiaaGreatDoor.sh
open Go
open Go.RowKit

section
variable {P : Program} {ops : Array Oper} {Q : Exit → Act → World → Prop} {md : Region.Mode} {S : World → Prop} {z : Nat}

/-- whatever order is picked, S holding behind every operation but number z -/
def wpAnyZ (P : Program) (md : Region.Mode) (ops : Array Oper) (Q : Exit → Act → World → Prop) (S : World → Prop) (z : Nat) : Nat → Array Bool → Act → World → Prop
  | 0, listed, a, w => Region.ready md ops listed = [] ∧ Q .normal a w
  | fuel + 1, listed, a, w =>
    (Region.ready md ops listed = [] → Q .normal a w) ∧
    ∀ i ∈ Region.ready md ops listed, wpOp P ops Q i (fun a' w' => (i ≠ z → S w') ∧ wpAnyZ P md ops Q S z fuel (listed.setIfInBounds i true) a' w') a w
theorem wpAny_ofZ : ∀ (fuel : Nat) (listed : Array Bool) (a : Act) (w : World), wpAnyZ P md ops Q S z fuel listed a w → wpAny P md ops Q fuel listed a w
  | 0, _, _, _, h => h
  | fuel + 1, _, _, _, h => ⟨h.1, fun i hi => wpOp_mono (fun a' w' h' => wpAny_ofZ fuel _ a' w' h'.2) (h.2 i hi)⟩
/-- number z is not ready before number i is through -/
def lastB (ops : Array Oper) (md : Region.Mode) (z i : Nat) : Bool := decide (i ≠ z) && (match ops[z]? with | some o => o.after.any fun e => Region.binds md e && e.on == i | none => false)
theorem lastB_ne {i j : Nat} {listed : Array Bool} (h : lastB ops md z i = true) (hi : listed.getD i false = false) (hj : j ∈ Region.ready md ops listed) : j ≠ z := by
  rintro rfl
  unfold lastB at h
  rw [Bool.and_eq_true] at h
  obtain ⟨-, o, ho, hall⟩ := mem_ready.1 hj
  rw [ho] at h
  obtain ⟨e, he, hb⟩ := Array.any_eq_true'.1 h.2
  rw [Bool.and_eq_true, beq_iff_eq] at hb
  have := hall e he hb.1
  rw [hb.2, hi] at this
  cases this
theorem getD_low {listed : Array Bool} {i : Nat} (h : listed.getD i true = false) : listed.getD i false = false := by
  rcases Nat.lt_or_ge i listed.size with h' | h'
  · simp [h'] at h ⊢; exact h
  · simp [Array.getElem?_eq_none h'] at h
/-- an operation that yields its value in each world that meets S may be taken first -/
theorem wpAnyZ_first {i : Nat} {oi : Oper} {v : Value} (hi : ops[i]? = some oi) (hsel : ∀ (j : Nat) (o : Oper) cs b, ops[j]? = some o → o.op ≠ .select cs b)
    (hQ : ∀ c a w, Q (.panic c) (a.put oi.dst v) w → Q (.panic c) a w) (hz : lastB ops md z i = true) :
    ∀ (fuel : Nat) (listed : Array Bool) (a : Act) (w : World),
      (∀ j oj, ops[j]? = some oj → j ≠ i → listed.getD j true = false → (∀ e ∈ oj.after, Region.binds md e = true → e.on ≠ i) → oi.apart ops oj = true) →
      i ∈ Region.ready md ops listed → YieldsIf P ops S oi v a → S w →
      wpAnyZ P md ops Q S z fuel (listed.setIfInBounds i true) (a.put oi.dst v) w → wpAnyZ P md ops Q S z (fuel + 1) listed a w := by
  intro fuel
  induction fuel with
  | zero =>
    intro listed a w _ hr hy hS H
    refine ⟨fun h => (by rw [h] at hr; cases hr), fun j hj => ?_⟩
    by_cases hji : j = i
    · subst hji; exact hy.wpOp hi hS ⟨fun _ => hS, H⟩
    · have := ready_mono hj hji
      rw [H.1] at this
      cases this
  | succ fuel ih =>
    intro listed a w hfree hr hy hS H
    have hil := getD_low (mem_ready.1 hr).1
    refine ⟨fun h => (by rw [h] at hr; cases hr), fun j hj => ?_⟩
    by_cases hji : j = i
    · subst hji; exact hy.wpOp hi hS ⟨fun _ => hS, H⟩
    · have h1 := H.2 j (ready_mono hj hji)
      obtain ⟨hjun, oj, hoj, hall⟩ := mem_ready.1 hj
      have hnot : ∀ e ∈ oj.after, Region.binds md e = true → e.on ≠ i := fun e he hb heq => by
        have h1 := hall e he hb
        rw [heq, hil] at h1
        cases h1
      have h2 := wpOp_putIf hoj (hfree j oj hoj hji hjun hnot) (fun cs b => hsel i oi cs b hi) (fun cs b => hsel j oj cs b hoj) hQ hy h1
      have hfree' : ∀ k ok, ops[k]? = some ok → k ≠ i → (listed.setIfInBounds j true).getD k true = false →
          (∀ e ∈ ok.after, Region.binds md e = true → e.on ≠ i) → oi.apart ops ok = true := fun k ok hk hki hun hno => by
        refine hfree k ok hk hki ?_ hno
        by_cases hjk : j = k
        · subst hjk; exact hjun
        · rw [getD_set_ne true hjk] at hun; exact hun
      refine wpOp_mono (fun a' w' h3 => ⟨fun hjz => h3.2.1 hjz, ih (listed.setIfInBounds j true) a' w' hfree' (ready_mono hr (Ne.symm hji)) h3.1 (h3.2.1 (lastB_ne hz hil hj)) ?_⟩) h2
      rw [Array.setIfInBounds_comm _ _ hji]
      exact h3.2.2
theorem wpAnyZ_take {i : Nat} {oi : Oper} {v : Value} {fuel : Nat} {listed : Array Bool} {a : Act} {w : World} (hi : ops[i]? = some oi)
    (hs : Region.noSelect ops = true) (hf : Region.free md ops listed i = true) (hr : (Region.ready md ops listed).contains i = true) (hz : lastB ops md z i = true)
    (hQ : ∀ c a w, Q (.panic c) (a.put oi.dst v) w → Q (.panic c) a w) (hS : S w) (hw : ∀ y, Region.wanted oi y = true) (hy : ∀ w, S w → (execOp a.eval oi).run P w = .ok (.value v) w)
    (h : wpAnyZ P md ops Q S z fuel (listed.setIfInBounds i true) (a.put oi.dst v) w) : wpAnyZ P md ops Q S z (fuel + 1) listed a w :=
  wpAnyZ_first hi (Region.noSelect_spec hs) hQ hz fuel listed a w (Region.free_spec hi hf) (by simpa using hr) (Or.inl ⟨hw _, hy⟩) hS h
/-- the one operation that is ready -/
theorem wpAnyZ_one {i : Nat} {o : Oper} {fuel : Nat} {listed : Array Bool} {a : Act} {w : World} (hr : Region.ready md ops listed = [i]) (hi : ops[i]? = some o)
    (h : ∀ K : Act → World → Prop, Hid (∀ a' w', (i ≠ z → S w') → wpAnyZ P md ops Q S z fuel (listed.setIfInBounds i true) a' w' → K a' w') → if Region.wanted o (yielded ops a.tmps) = true then Oper.wp P o a w K Q else K (a.put o.dst undef) w) : wpAnyZ P md ops Q S z (fuel + 1) listed a w :=
  ⟨fun h0 => absurd (hr ▸ h0) (by simp), fun j hj => by
    rw [hr, List.mem_singleton] at hj
    subst hj
    exact wpOp_step hi fun K hK => h K (Lib.hid fun a' w' h1 h2 => hK a' w' ⟨h1, h2⟩)⟩
theorem wpAnyZ_done {listed : Array Bool} {a : Act} {w : World} (hr : Region.ready md ops listed = []) (h : Q .normal a w) :
    ∀ fuel, wpAnyZ P md ops Q S z fuel listed a w
  | 0 => ⟨hr, h⟩
  | _ + 1 => ⟨fun _ => h, by rw [hr]; simp⟩
/-- the beginning -/
theorem wp_regionZ {id : Nat} {a : Act} {w : World} (S : World → Prop) (z : Nat) (hm : P.follows .mixedOrders = true)
    (h : wpAnyZ P .any ops Q S z ops.size (Array.replicate ops.size false) a w.drew) : (Code.region id ops true).wp P Q a w :=
  wp_region_any hm (wpAny_ofZ _ _ _ _ h)
end
end Go.Proofs.YtepalbldleegiaaGreatDoor.sh

namespace Go.Proofs.YtepalbldleegiaaGreatDoor.sh
open Go.RowKit
open Go.Lib (itoa decDigits byteCells atoiAll)

/-- the strings where a list's address says -/
def TextsAt (w : World) (B : Nat) (A : Option Addr) (l : List Bs) : Prop := l ≠ [] → ∃ b off, A = some ⟨b, off, none⟩ ∧ b < B ∧ ∀ (j : Nat) (x : Bs), l[j]? = some x → w.cell? ⟨b, off + j, none⟩ = some (.string (S x))
theorem TextsAt.keep {w w' : World} {B : Nat} {A : Option Addr} {l : List Bs} (h : TextsAt w B A l) (hb : Below B w w') : TextsAt w' B A l := fun hn => by
  obtain ⟨b, off, e, hlt, hc⟩ := h hn
  exact ⟨b, off, e, hlt, fun i x hx => (hb.cell (p := ⟨b, off + i, none⟩) hlt).trans (hc i x hx)⟩
theorem TextsAt.up {w : World} {B B' : Nat} {A : Option Addr} {l : List Bs} (h : TextsAt w B A l) (hb : B ≤ B') : TextsAt w B' A l := fun hn => by
  obtain ⟨b, off, e, hlt, hc⟩ := h hn
  exact ⟨b, off, e, Nat.lt_of_lt_of_le hlt hb, hc⟩
theorem op_wordAt (k : Nat) (h0 : 1 ≤ k) (h1 : k < 16) : opL (k : Int) = wordAt k := by
  have : ∀ i : Fin 15, opL ((i.val + 1 : Nat) : Int) = wordAt (i.val + 1) := by decide
  have := this ⟨k - 1, by omega⟩
  simp only at this
  rwa [show k - 1 + 1 = k by omega] at this
theorem lastW_more (p : Bs) (k : Nat) (z : Int) (h0 : 1 ≤ k) (h1 : k < 16) : lastW p (opWords.drop (k - 1)) (k : Int) z = lastW p (opWords.drop (k + 1 - 1)) ((k + 1 : Nat) : Int) (if wordAt k = p then (k : Int) else z) := by
  have hl : k - 1 < opWords.length := by show k - 1 < 15; omega
  have hg := wordAt_get k h0 h1
  rw [List.getElem?_eq_getElem hl] at hg
  injection hg with hg
  rw [List.drop_eq_getElem_cons hl, hg, lastW, show k - 1 + 1 = k + 1 - 1 by omega]
  rfl
theorem setFs_step (w : Int → Int) (q : Req) (fl : List Fd) (ps : List Bs) (j : Nat) (hj : j < fl.length) (hp : j < ps.length) : setFs w q (fl.drop j) (ps.drop j) = setFs w (setF w q ps[j] fl[j]) (fl.drop (j + 1)) (ps.drop (j + 1)) := by
  rw [List.drop_eq_getElem_cons hj, List.drop_eq_getElem_cons hp]
  rfl
theorem setFs_end (w : Int → Int) (q : Req) (fl : List Fd) (ps : List Bs) (j : Nat) (h : fl.length ≤ j ∨ ps.length ≤ j) : setFs w q (fl.drop j) (ps.drop j) = q := by
  rcases h with h | h
  · rw [List.drop_eq_nil_of_le h]; simp only [setFs]
  · rw [List.drop_eq_nil_of_le h]
    cases fl.drop j <;> simp only [setFs]
theorem ret_agg {a b : Array Value} (h : a = b) : Ending.returned (.agg a) = .returned (.agg b) := by rw [h]

set_option maxRecDepth 100000 in
set_option maxHeartbeats 8000000 in
theorem rreq_any (ps : List Bs) (X : Option Addr) (cx : Nat) (r : Req) (w : World) (hx : TextsAt w w.heap.size X ps) (hn : ps.length ≤ 1048577) (hl : ∀ p ∈ ps, p.length ≤ 1048576) :
    Calls Tryz.prog 71 #[.slice X ps.length cx, .agg (reqA r)] w fun e w' => e = .returned (.agg (reqA (readReq wrap64 ps r))) ∧ Below w.heap.size w w' := by
  have hB1 : Below w.heap.size w (w.alloc (.cells (reqA r) 24)) := (Below.refl _ _).alloc (Nat.le_refl _) _
  have hT1 := (Blk.new w 24 (reqA r)).alloc (.cells #[.int .u32 0, .int .i64 0, .string ⟨#[]⟩, .string ⟨#[]⟩, .string ⟨#[]⟩, .int .i64 0, .int .i64 0, .int .i64 0, .int .i64 0] 24)
  have hT2 := Blk.new (w.alloc (.cells (reqA r) 24)) 24 #[.int .u32 0, .int .i64 0, .string ⟨#[]⟩, .string ⟨#[]⟩, .string ⟨#[]⟩, .int .i64 0, .int .i64 0, .int .i64 0, .int .i64 0]
  rw [World.size_alloc] at hT2
  have hB2 := hB1.alloc hB1.size (.cells #[.int .u32 0, .int .i64 0, .string ⟨#[]⟩, .string ⟨#[]⟩, .string ⟨#[]⟩, .int .i64 0, .int .i64 0, .int .i64 0, .int .i64 0] 24)
  clear hB1
  obtain ⟨res, hres⟩ : ∃ q, readReq wrap64 ps r = q := ⟨_, rfl⟩
  rw [hres]
  have HRES := Lib.hid hres
  have HL := Lib.hid hl
  have HX := Lib.hid hx
  clear hres hl hx
  generalize hra : reqA r = ra at hT1 hT2 hB2 ⊢
  have HRA := Lib.hid hra
  clear hra
  by_cases h0 : ps = []
  · subst h0
    have HF : Hid (res = r) := Lib.hid (by rw [← HRES.out]; rfl)
    rw [List.length_nil]
    go_enter Tryz.func71, Tryz.ntmps71
    go_upto_region 1 with fail
    generalize hw0 : (w.alloc _).alloc _ = w0 at hT1 hT2 hB2 ⊢
    have HT1 : Hid (Blk w0 w.heap.size 24 (reqA r)) := Lib.hid (by rw [HRA.out]; exact hT1)
    have HT2 := Lib.hid hT2
    have HB0 := Lib.hid hB2
    clear hw0 hT1 hT2 hB2
    go_wp2_with (first
      | ((with_reducible refine at_op ⟨_, .load 24 (.tmp 3), _, _, _, _⟩ ?_); refine wpList_load_list rfl 24 (.tmp 3) rfl ⟨w.heap.size, 0, none⟩ rfl (reqC r) (req_list HT1.out) _ Tryz.underlying24 rfl (by kernel_rfl) ?_)
      | ((with_reducible refine at_op ⟨_, .store 24 (.tmp 4) (.tmp 12), _, _, _, _⟩ ?_); refine wpList_store_blk rfl 24 (.tmp 4) (.tmp 12) rfl (w.heap.size + 1) 0 rfl (reqC r) rfl (reqC_one r) 24 _ HT2.out (show 0 + 9 ≤ 9 from Nat.le_refl 9) (by kernel_rfl) ?_; intro w7 hT7 hg7 hs7; rw [put_req _ rfl] at hT7; have HT7 := Lib.hid hT7; have HG7 := Lib.hid hg7; clear hT7 hg7 hs7)
      | fail)
    refine bodyPost_ret (results_cell_row rfl _ _ (w.heap.size + 1) 24 (reqA r) (0, 0) _ rfl HT7.out Tryz.underlying24 rfl (by kernel_rfl)) rfl ?_
    exact ⟨ret_agg (by rw [HF.out]), below_gb HB0.out HG7.out HB0.out.size (Nat.le_succ _)⟩
  obtain ⟨p, rest, rfl⟩ := List.exists_cons_of_ne_nil h0
  clear h0
  obtain ⟨b, off, rfl, hb, hcl⟩ := HX.out (by simp)
  clear HX
  have HCL : Hid (∀ W, Below w.heap.size w W → ∀ (j : Nat) (x : Bs), (p :: rest)[j]? = some x → W.cell? ⟨b, off + j, none⟩ = some (.string (S x))) := Lib.hid fun W hW j x hx => (hW.cell (p := ⟨b, off + j, none⟩) hb).trans (hcl j x hx)
  clear hb hcl
  rw [List.length_cons] at hn ⊢
  have HLR : Hid (∀ x ∈ rest, x.length ≤ 1048576) := Lib.hid fun x hx => HL.out x (List.mem_cons_of_mem _ hx)
  obtain ⟨rl, hrl⟩ : ∃ n, rest.length = n := ⟨_, rfl⟩
  rw [hrl] at hn ⊢
  have HRL := Lib.hid hrl
  clear hrl HL
  go_enter Tryz.func71, Tryz.ntmps71
  go_upto_region 1 with fail
  generalize hw0 : (w.alloc _).alloc _ = w0 at hT1 hT2 hB2 ⊢
  have HT1 : Hid (Blk w0 w.heap.size 24 (reqA { r with op := r.op })) := Lib.hid (by show Blk w0 w.heap.size _ (reqA r); rw [HRA.out]; exact hT1)
  have HT2 := Lib.hid hT2
  have HB0 := Lib.hid hB2
  clear hw0 hT1 hT2 hB2 HRA
  have hn1 : ((rl : Int) + 1 == 0) = false := by rw [beq_eq_false_iff_ne]; omega
  go_wp2_with fail
  go_loopw [5] (fun s5 wr => ∃ (k : Nat) (z : Int), 1 ≤ k ∧ k ≤ 16 ∧ s5 = .int .i64 (k : Int) ∧ Hid (lastW p opWords 1 r.op = lastW p (opWords.drop (k - 1)) (k : Int) z) ∧ Hid (Blk wr w.heap.size 24 (reqA { r with op := z })) ∧ Hid (Blk wr (w.heap.size + 1) 24 #[.int .u32 0, .int .i64 0, .string ⟨#[]⟩, .string ⟨#[]⟩, .string ⟨#[]⟩, .int .i64 0, .int .i64 0, .int .i64 0, .int .i64 0]) ∧ Hid (Below w.heap.size w wr)) (fun s5 _ => 16 - (intOf s5).toNat)
  case atStart => exact ⟨1, r.op, Nat.le_refl _, by omega, rfl, Lib.hid rfl, HT1, HT2, HB0⟩
  case round =>
    clear HT1 HT2 HB0
    obtain ⟨k, z, hk1, hk16, rfl, HLW, HTr, HT2r, HBr⟩ := hrel
    by_cases hlt : k < 16
    · obtain ⟨wk, hwk⟩ : ∃ x, wordAt k = x := ⟨_, rfl⟩
      have HOPW : Hid (∀ W, Calls Tryz.prog 65 #[.int .i64 (k : Int)] W fun e w' => e = .returned (.string (S wk)) ∧ Below W.heap.size W w') := Lib.hid fun W => by
        have := opWord_any (k : Int) (by omega) (by omega) W
        rw [op_wordAt k hk1 hlt, hwk] at this
        exact this
      have HLW2 : Hid (lastW p opWords 1 r.op = lastW p (opWords.drop (k + 1 - 1)) ((k + 1 : Nat) : Int) (if wk = p then (k : Int) else z)) := Lib.hid (by rw [HLW.out, lastW_more p k z hk1 hlt, hwk])
      have k0 : ∀ W, Below wr.heap.size wr W → W.cell? ⟨b, off, none⟩ = some (.string (S p)) := fun W hW => HCL.out W (HBr.out.trans (hW.mono HBr.out.size)) 0 p rfl
      clear hwk HLW
      by_cases he : wk = p
      · subst he
        rw [if_pos rfl] at HLW2
        go_upto_region 6 with fail
        first
          | go_region_held3 (fun w' => Below wr.heap.size wr w') (first | assumption | exact (Below.refl _ _).drew | fail)
              (first
                | (go_at_call 65; (with_reducible refine (HOPW.out _).mono ?_); rintro e1 w1 ⟨rfl, hb1⟩; have HK1 : Below wr.heap.size wr w1 := ((Below.refl _ _).drew).trans (hb1.mono (Nat.le_refl _)); clear hb1)
                | fail)
          | fail
        all_goals
          have hT := HTr.out.below HK1 HTr.out.lt
          have c1 : w1.cell? ⟨w.heap.size, 1, none⟩ = some (.int .i64 z) := hT.cell 1
          have z1 := hT.frozen 1
          have HQ : Hid (Blk (w1.setCell ⟨w.heap.size, 1, none⟩ (.int .i64 (k : Int))) w.heap.size 24 (reqA { r with op := (k : Int) })) := hT.set_ 1 _
          have HT2n : Hid (Blk (w1.setCell ⟨w.heap.size, 1, none⟩ (.int .i64 (k : Int))) (w.heap.size + 1) 24 #[.int .u32 0, .int .i64 0, .string ⟨#[]⟩, .string ⟨#[]⟩, .string ⟨#[]⟩, .int .i64 0, .int .i64 0, .int .i64 0, .int .i64 0]) := (HT2r.out.below HK1 HT2r.out.lt).far (by show w.heap.size + 1 ≠ w.heap.size; omega) _
          have HBn : Hid (Below w.heap.size w (w1.setCell ⟨w.heap.size, 1, none⟩ (.int .i64 (k : Int)))) := (HBr.out.trans (HK1.mono HBr.out.size)).setCell (p := ⟨w.heap.size, 1, none⟩) (Nat.le_refl _) _
          clear hT k0
          go_wp2_with fail
          go_roundw
          case rel => exact ⟨k + 1, _, by omega, by omega, by go_num, HLW2, HQ, HT2n, HBn⟩
          case measure => simp [intOf]; omega
      · have hne : ((S wk).toList == (S p).toList) = false := by rw [beq_eq_false_iff_ne, S_list, S_list]; exact he
        rw [if_neg he] at HLW2
        go_upto_region 6 with fail
        first
          | go_region_held3 (fun w' => Below wr.heap.size wr w') (first | assumption | exact (Below.refl _ _).drew | fail)
              (first
                | (go_at_call 65; (with_reducible refine (HOPW.out _).mono ?_); rintro e1 w1 ⟨rfl, hb1⟩; have HK1 : Below wr.heap.size wr w1 := ((Below.refl _ _).drew).trans (hb1.mono (Nat.le_refl _)); clear hb1)
                | fail)
          | fail
        all_goals
          have HQ : Hid (Blk w1 w.heap.size 24 (reqA { r with op := z })) := HTr.out.below HK1 HTr.out.lt
          have HT2n : Hid (Blk w1 (w.heap.size + 1) 24 #[.int .u32 0, .int .i64 0, .string ⟨#[]⟩, .string ⟨#[]⟩, .string ⟨#[]⟩, .int .i64 0, .int .i64 0, .int .i64 0, .int .i64 0]) := HT2r.out.below HK1 HT2r.out.lt
          have HBn : Hid (Below w.heap.size w w1) := HBr.out.trans (HK1.mono HBr.out.size)
          clear k0
          go_wp2_with fail
          go_roundw
          case rel => exact ⟨k + 1, _, by omega, by omega, by go_num, HLW2, HQ, HT2n, HBn⟩
          case measure => simp [intOf]; omega
    · obtain rfl : k = 16 := by omega
      have hz : lastW p opWords 1 r.op = z := by rw [HLW.out]; rfl
      obtain ⟨fl, hfl⟩ : ∃ l, fieldsOf z = l := ⟨_, rfl⟩
      have HFB : Hid (fieldB z = fl.map fb) := Lib.hid (by unfold fieldB; rw [hfl])
      have HRE : Hid (res = setFs wrap64 { r with op := z } fl rest) := Lib.hid (by
        rw [← HRES.out]
        show setFs wrap64 { r with op := lastW p opWords 1 r.op } (fieldsOf (lastW p opWords 1 r.op)) rest = _
        rw [hz, hfl])
      have hll : fl.length ≤ 5 := by rw [← hfl]; exact fields5 z
      obtain ⟨q0, hq0⟩ : ∃ q : Req, { r with op := z } = q := ⟨_, rfl⟩
      have c1 : wr.cell? ⟨w.heap.size, 1, none⟩ = some (.int .i64 z) := HTr.out.cell 1
      rw [hq0] at HRE HTr
      clear hz hfl hq0 HLW HRES
      go_wp2_with fail
      refine (fields_any z wr).mono ?_
      rw [HFB.out]
      rintro e w1 ⟨rfl, rfl⟩
      have hsz : (S (fl.map fb)).size = fl.length := by rw [S_size, List.length_map]
      clear c1
      obtain ⟨ll, hlleq⟩ : ∃ n, fl.length = n := ⟨_, rfl⟩
      rw [hlleq] at hsz hll
      have HLLN := Lib.hid hlleq
      clear hlleq
      go_wp2_with fail
      obtain ⟨w2, hw2⟩ : ∃ x : World, x = w1 := ⟨_, rfl⟩
      rw [← hw2] at HTr HT2r HBr ⊢
      clear hw2
      go_loopw [7, 8] (fun i _ wr => ∃ (j : Nat) (q : Req), j ≤ ll ∧ j ≤ rl ∧ i = .int .i64 (j : Int) ∧ Hid (setFs wrap64 q0 fl rest = setFs wrap64 q (fl.drop j) (rest.drop j)) ∧ Hid (Blk wr w.heap.size 24 (reqA q)) ∧ Hid (Blk wr (w.heap.size + 1) 24 #[.int .u32 0, .int .i64 0, .string ⟨#[]⟩, .string ⟨#[]⟩, .string ⟨#[]⟩, .int .i64 0, .int .i64 0, .int .i64 0, .int .i64 0]) ∧ Hid (Below w.heap.size w wr)) (fun i _ _ => ll - (intOf i).toNat)
      case atStart => exact ⟨0, q0, Nat.zero_le _, Nat.zero_le _, rfl, Lib.hid (by rw [List.drop_zero, List.drop_zero]), HTr, HT2r, HBr⟩
      case round =>
        clear HTr HT2r HBr
        obtain ⟨j, q, hj, hjr, rfl, HSF, HTr, HT2r, HBr⟩ := hrel
        by_cases hlt : j < ll ∧ j < rl
        · obtain ⟨hlt, hlt2⟩ := hlt
          have hlA : j < fl.length := by rw [HLLN.out]; exact hlt
          have hlB : j < rest.length := by rw [HRL.out]; exact hlt2
          have hixA := S_idx (fl.map fb) j (by rw [List.length_map]; exact hlA)
          rw [List.getElem_map] at hixA
          have HSF2 : Hid (setFs wrap64 q0 fl rest = setFs wrap64 (setF wrap64 q rest[j] fl[j]) (fl.drop (j + 1)) (rest.drop (j + 1))) := Lib.hid (by rw [HSF.out, setFs_step wrap64 q fl rest j hlA hlB])
          have hxl : rest[j].length ≤ 1048576 := HLR.out _ (List.getElem_mem hlB)
          have qx : wr.cell? ⟨b, off + (j + 1), none⟩ = some (.string (S rest[j])) := HCL.out wr HBr.out (j + 1) _ (by rw [List.getElem?_cons_succ]; exact List.getElem?_eq_getElem hlB)
          obtain ⟨x, hx⟩ : ∃ x, rest[j] = x := ⟨_, rfl⟩
          rw [hx] at HSF2 hxl qx
          obtain ⟨fd, hfd⟩ : ∃ x, fl[j] = x := ⟨_, rfl⟩
          rw [hfd] at HSF2 hixA
          clear hx hfd HSF
          cases fd
          case T =>
            have hix : ∀ W, (Instr.index 9 (.string (S (fl.map fb))) (.int .i64 (j : Int))).run Tryz.prog W = .ok (.int .u8 84) W := hixA
            have HSF3 : Hid (setFs wrap64 q0 fl rest = setFs wrap64 { q with topic := readTR x } (fl.drop (j + 1)) (rest.drop (j + 1))) := HSF2
            clear hixA HSF2
            go_wp2_with fail
            refine (rrtext_any x hxl wr).mono ?_
            rintro e w3 ⟨rfl, hb3⟩
            have hT := HTr.out.below hb3 HTr.out.lt
            have hT2 := HT2r.out.below hb3 HT2r.out.lt
            have hBn := HBr.out.trans (hb3.mono HBr.out.size)
            clear hb3
            have c1 : w3.cell? ⟨w.heap.size, 2, none⟩ = some (.string (S q.topic)) := hT.cell 2
            have z1 := hT.frozen 2
            have HQ : Hid (Blk (w3.setCell ⟨w.heap.size, 2, none⟩ (.string (S (readTR x)))) w.heap.size 24 (reqA { q with topic := readTR x })) := hT.set_ 2 _
            have HT2n : Hid (Blk (w3.setCell ⟨w.heap.size, 2, none⟩ (.string (S (readTR x)))) (w.heap.size + 1) 24 #[.int .u32 0, .int .i64 0, .string ⟨#[]⟩, .string ⟨#[]⟩, .string ⟨#[]⟩, .int .i64 0, .int .i64 0, .int .i64 0, .int .i64 0]) := hT2.far (by show w.heap.size + 1 ≠ w.heap.size; omega) _
            have HBn : Hid (Below w.heap.size w (w3.setCell ⟨w.heap.size, 2, none⟩ (.string (S (readTR x))))) := hBn.setCell (p := ⟨w.heap.size, 2, none⟩) (Nat.le_refl _) _
            clear hT hT2 hBn hxl qx HTr HT2r HBr hix
            go_wp2_with fail
            go_roundw
            case rel => exact ⟨j + 1, _, by omega, by omega, by go_num, HSF3, HQ, HT2n, HBn⟩
            case measure => simp [intOf]; omega
          case K =>
            have hix : ∀ W, (Instr.index 9 (.string (S (fl.map fb))) (.int .i64 (j : Int))).run Tryz.prog W = .ok (.int .u8 75) W := hixA
            have HSF3 : Hid (setFs wrap64 q0 fl rest = setFs wrap64 { q with key := readTR x } (fl.drop (j + 1)) (rest.drop (j + 1))) := HSF2
            clear hixA HSF2
            go_wp2_with fail
            refine (rrtext_any x hxl wr).mono ?_
            rintro e w3 ⟨rfl, hb3⟩
            have hT := HTr.out.below hb3 HTr.out.lt
            have hT2 := HT2r.out.below hb3 HT2r.out.lt
            have hBn := HBr.out.trans (hb3.mono HBr.out.size)
            clear hb3
            have c1 : w3.cell? ⟨w.heap.size, 3, none⟩ = some (.string (S q.key)) := hT.cell 3
            have z1 := hT.frozen 3
            have HQ : Hid (Blk (w3.setCell ⟨w.heap.size, 3, none⟩ (.string (S (readTR x)))) w.heap.size 24 (reqA { q with key := readTR x })) := hT.set_ 3 _
            have HT2n : Hid (Blk (w3.setCell ⟨w.heap.size, 3, none⟩ (.string (S (readTR x)))) (w.heap.size + 1) 24 #[.int .u32 0, .int .i64 0, .string ⟨#[]⟩, .string ⟨#[]⟩, .string ⟨#[]⟩, .int .i64 0, .int .i64 0, .int .i64 0, .int .i64 0]) := hT2.far (by show w.heap.size + 1 ≠ w.heap.size; omega) _
            have HBn : Hid (Below w.heap.size w (w3.setCell ⟨w.heap.size, 3, none⟩ (.string (S (readTR x))))) := hBn.setCell (p := ⟨w.heap.size, 3, none⟩) (Nat.le_refl _) _
            clear hT hT2 hBn hxl qx HTr HT2r HBr hix
            go_wp2_with fail
            go_roundw
            case rel => exact ⟨j + 1, _, by omega, by omega, by go_num, HSF3, HQ, HT2n, HBn⟩
            case measure => simp [intOf]; omega
          case V =>
            have hix : ∀ W, (Instr.index 9 (.string (S (fl.map fb))) (.int .i64 (j : Int))).run Tryz.prog W = .ok (.int .u8 86) W := hixA
            have HSF3 : Hid (setFs wrap64 q0 fl rest = setFs wrap64 { q with value := readTR x } (fl.drop (j + 1)) (rest.drop (j + 1))) := HSF2
            clear hixA HSF2
            go_wp2_with fail
            refine (rrtext_any x hxl wr).mono ?_
            rintro e w3 ⟨rfl, hb3⟩
            have hT := HTr.out.below hb3 HTr.out.lt
            have hT2 := HT2r.out.below hb3 HT2r.out.lt
            have hBn := HBr.out.trans (hb3.mono HBr.out.size)
            clear hb3
            have c1 : w3.cell? ⟨w.heap.size, 4, none⟩ = some (.string (S q.value)) := hT.cell 4
            have z1 := hT.frozen 4
            have HQ : Hid (Blk (w3.setCell ⟨w.heap.size, 4, none⟩ (.string (S (readTR x)))) w.heap.size 24 (reqA { q with value := readTR x })) := hT.set_ 4 _
            have HT2n : Hid (Blk (w3.setCell ⟨w.heap.size, 4, none⟩ (.string (S (readTR x)))) (w.heap.size + 1) 24 #[.int .u32 0, .int .i64 0, .string ⟨#[]⟩, .string ⟨#[]⟩, .string ⟨#[]⟩, .int .i64 0, .int .i64 0, .int .i64 0, .int .i64 0]) := hT2.far (by show w.heap.size + 1 ≠ w.heap.size; omega) _
            have HBn : Hid (Below w.heap.size w (w3.setCell ⟨w.heap.size, 4, none⟩ (.string (S (readTR x))))) := hBn.setCell (p := ⟨w.heap.size, 4, none⟩) (Nat.le_refl _) _
            clear hT hT2 hBn hxl qx HTr HT2r HBr hix
            go_wp2_with fail
            go_roundw
            case rel => exact ⟨j + 1, _, by omega, by omega, by go_num, HSF3, HQ, HT2n, HBn⟩
            case measure => simp [intOf]; omega
          case O =>
            have hix : ∀ W, (Instr.index 9 (.string (S (fl.map fb))) (.int .i64 (j : Int))).run Tryz.prog W = .ok (.int .u8 79) W := hixA
            have HSF3 : Hid (setFs wrap64 q0 fl rest = setFs wrap64 { q with off := readN wrap64 x } (fl.drop (j + 1)) (rest.drop (j + 1))) := HSF2
            clear hixA HSF2
            go_wp2_with fail
            refine (rnum_any x hxl wr).mono ?_
            rintro e w3 ⟨rfl, rfl⟩
            have hT := HTr.out
            have hT2 := HT2r.out
            have hBn := HBr.out
            have c1 : w3.cell? ⟨w.heap.size, 5, none⟩ = some (.int .i64 q.off) := hT.cell 5
            have z1 := hT.frozen 5
            have HQ : Hid (Blk (w3.setCell ⟨w.heap.size, 5, none⟩ (.int .i64 (readN wrap64 x))) w.heap.size 24 (reqA { q with off := readN wrap64 x })) := hT.set_ 5 _
            have HT2n : Hid (Blk (w3.setCell ⟨w.heap.size, 5, none⟩ (.int .i64 (readN wrap64 x))) (w.heap.size + 1) 24 #[.int .u32 0, .int .i64 0, .string ⟨#[]⟩, .string ⟨#[]⟩, .string ⟨#[]⟩, .int .i64 0, .int .i64 0, .int .i64 0, .int .i64 0]) := hT2.far (by show w.heap.size + 1 ≠ w.heap.size; omega) _
            have HBn : Hid (Below w.heap.size w (w3.setCell ⟨w.heap.size, 5, none⟩ (.int .i64 (readN wrap64 x)))) := hBn.setCell (p := ⟨w.heap.size, 5, none⟩) (Nat.le_refl _) _
            clear hT hT2 hBn hxl qx HTr HT2r HBr hix
            go_wp2_with fail
            go_roundw
            case rel => exact ⟨j + 1, _, by omega, by omega, by go_num, HSF3, HQ, HT2n, HBn⟩
            case measure => simp [intOf]; omega
          case N =>
            have hix : ∀ W, (Instr.index 9 (.string (S (fl.map fb))) (.int .i64 (j : Int))).run Tryz.prog W = .ok (.int .u8 78) W := hixA
            have HSF3 : Hid (setFs wrap64 q0 fl rest = setFs wrap64 { q with num := readN wrap64 x } (fl.drop (j + 1)) (rest.drop (j + 1))) := HSF2
            clear hixA HSF2
            go_wp2_with fail
            refine (rnum_any x hxl wr).mono ?_
            rintro e w3 ⟨rfl, rfl⟩
            have hT := HTr.out
            have hT2 := HT2r.out
            have hBn := HBr.out
            have c1 : w3.cell? ⟨w.heap.size, 6, none⟩ = some (.int .i64 q.num) := hT.cell 6
            have z1 := hT.frozen 6
            have HQ : Hid (Blk (w3.setCell ⟨w.heap.size, 6, none⟩ (.int .i64 (readN wrap64 x))) w.heap.size 24 (reqA { q with num := readN wrap64 x })) := hT.set_ 6 _
            have HT2n : Hid (Blk (w3.setCell ⟨w.heap.size, 6, none⟩ (.int .i64 (readN wrap64 x))) (w.heap.size + 1) 24 #[.int .u32 0, .int .i64 0, .string ⟨#[]⟩, .string ⟨#[]⟩, .string ⟨#[]⟩, .int .i64 0, .int .i64 0, .int .i64 0, .int .i64 0]) := hT2.far (by show w.heap.size + 1 ≠ w.heap.size; omega) _
            have HBn : Hid (Below w.heap.size w (w3.setCell ⟨w.heap.size, 6, none⟩ (.int .i64 (readN wrap64 x)))) := hBn.setCell (p := ⟨w.heap.size, 6, none⟩) (Nat.le_refl _) _
            clear hT hT2 hBn hxl qx HTr HT2r HBr hix
            go_wp2_with fail
            go_roundw
            case rel => exact ⟨j + 1, _, by omega, by omega, by go_num, HSF3, HQ, HT2n, HBn⟩
            case measure => simp [intOf]; omega
          case P =>
            have hix : ∀ W, (Instr.index 9 (.string (S (fl.map fb))) (.int .i64 (j : Int))).run Tryz.prog W = .ok (.int .u8 80) W := hixA
            have HSF3 : Hid (setFs wrap64 q0 fl rest = setFs wrap64 { q with pid := readN wrap64 x } (fl.drop (j + 1)) (rest.drop (j + 1))) := HSF2
            clear hixA HSF2
            go_wp2_with fail
            refine (rnum_any x hxl wr).mono ?_
            rintro e w3 ⟨rfl, rfl⟩
            have hT := HTr.out
            have hT2 := HT2r.out
            have hBn := HBr.out
            have c1 : w3.cell? ⟨w.heap.size, 7, none⟩ = some (.int .i64 q.pid) := hT.cell 7
            have z1 := hT.frozen 7
            have HQ : Hid (Blk (w3.setCell ⟨w.heap.size, 7, none⟩ (.int .i64 (readN wrap64 x))) w.heap.size 24 (reqA { q with pid := readN wrap64 x })) := hT.set_ 7 _
            have HT2n : Hid (Blk (w3.setCell ⟨w.heap.size, 7, none⟩ (.int .i64 (readN wrap64 x))) (w.heap.size + 1) 24 #[.int .u32 0, .int .i64 0, .string ⟨#[]⟩, .string ⟨#[]⟩, .string ⟨#[]⟩, .int .i64 0, .int .i64 0, .int .i64 0, .int .i64 0]) := hT2.far (by show w.heap.size + 1 ≠ w.heap.size; omega) _
            have HBn : Hid (Below w.heap.size w (w3.setCell ⟨w.heap.size, 7, none⟩ (.int .i64 (readN wrap64 x)))) := hBn.setCell (p := ⟨w.heap.size, 7, none⟩) (Nat.le_refl _) _
            clear hT hT2 hBn hxl qx HTr HT2r HBr hix
            go_wp2_with fail
            go_roundw
            case rel => exact ⟨j + 1, _, by omega, by omega, by go_num, HSF3, HQ, HT2n, HBn⟩
            case measure => simp [intOf]; omega
          case S =>
            have hix : ∀ W, (Instr.index 9 (.string (S (fl.map fb))) (.int .i64 (j : Int))).run Tryz.prog W = .ok (.int .u8 83) W := hixA
            have HSF3 : Hid (setFs wrap64 q0 fl rest = setFs wrap64 { q with seq := readN wrap64 x } (fl.drop (j + 1)) (rest.drop (j + 1))) := HSF2
            clear hixA HSF2
            go_wp2_with fail
            refine (rnum_any x hxl wr).mono ?_
            rintro e w3 ⟨rfl, rfl⟩
            have hT := HTr.out
            have hT2 := HT2r.out
            have hBn := HBr.out
            have c1 : w3.cell? ⟨w.heap.size, 8, none⟩ = some (.int .i64 q.seq) := hT.cell 8
            have z1 := hT.frozen 8
            have HQ : Hid (Blk (w3.setCell ⟨w.heap.size, 8, none⟩ (.int .i64 (readN wrap64 x))) w.heap.size 24 (reqA { q with seq := readN wrap64 x })) := hT.set_ 8 _
            have HT2n : Hid (Blk (w3.setCell ⟨w.heap.size, 8, none⟩ (.int .i64 (readN wrap64 x))) (w.heap.size + 1) 24 #[.int .u32 0, .int .i64 0, .string ⟨#[]⟩, .string ⟨#[]⟩, .string ⟨#[]⟩, .int .i64 0, .int .i64 0, .int .i64 0, .int .i64 0]) := hT2.far (by show w.heap.size + 1 ≠ w.heap.size; omega) _
            have HBn : Hid (Below w.heap.size w (w3.setCell ⟨w.heap.size, 8, none⟩ (.int .i64 (readN wrap64 x)))) := hBn.setCell (p := ⟨w.heap.size, 8, none⟩) (Nat.le_refl _) _
            clear hT hT2 hBn hxl qx HTr HT2r HBr hix
            go_wp2_with fail
            go_roundw
            case rel => exact ⟨j + 1, _, by omega, by omega, by go_num, HSF3, HQ, HT2n, HBn⟩
            case measure => simp [intOf]; omega
        · have HF : Hid (res = q) := Lib.hid (by
            rw [HRE.out, HSF.out]
            exact setFs_end wrap64 q fl rest j (by rw [HLLN.out, HRL.out]; omega))
          have hend : ¬ (j < ll) ∨ (j < ll ∧ ¬ j < rl) := by omega
          clear hlt
          rcases hend with hend | ⟨hend, hend2⟩
          all_goals
            go_wp2_with (first
              | ((with_reducible refine at_op ⟨_, .load 24 (.tmp 3), _, _, _, _⟩ ?_); refine wpList_load_list rfl 24 (.tmp 3) rfl ⟨w.heap.size, 0, none⟩ rfl (reqC q) (req_list HTr.out) _ Tryz.underlying24 rfl (by kernel_rfl) ?_)
              | ((with_reducible refine at_op ⟨_, .store 24 (.tmp 4) (.tmp 84), _, _, _, _⟩ ?_); refine wpList_store_blk rfl 24 (.tmp 4) (.tmp 84) rfl (w.heap.size + 1) 0 rfl (reqC q) rfl (reqC_one q) 24 _ HT2r.out (show 0 + 9 ≤ 9 from Nat.le_refl 9) (by kernel_rfl) ?_; intro w7 hT7 hg7 hs7; rw [put_req _ rfl] at hT7; have HT7 := Lib.hid hT7; have HG7 := Lib.hid hg7; clear hT7 hg7 hs7)
              | fail)
            refine bodyPost_ret (results_cell_row rfl _ _ (w.heap.size + 1) 24 (reqA q) (0, 0) _ rfl HT7.out Tryz.underlying24 rfl (by kernel_rfl)) rfl ?_
            exact ⟨ret_agg (by rw [HF.out]), below_gb HBr.out HG7.out HBr.out.size (Nat.le_succ _)⟩
end Go.Proofs.YtepalbldleegiaaGreatDoor.sh

namespace Go.Proofs.YtepalbldleegiaaGreatDoor.sh
open Go.RowKit
open Go.Lib (itoa decDigits byteCells atoiAll)

/-- how a number becomes a uint32 -/
def w32 (x : Int) : Int := IntKind.u32.wrap x
theorem lastV_more (p : Bs) (k : Nat) (z : Int) (h1 : k < 11) : lastW p (verbWords.drop k) (k : Int) z = lastW p (verbWords.drop (k + 1)) ((k + 1 : Nat) : Int) (if verbWords.getD k [] = p then (k : Int) else z) := by
  have hl : k < verbWords.length := by show k < 11; omega
  have hg : verbWords.getD k [] = verbWords[k] := by rw [List.getD_eq_getElem?_getD, List.getElem?_eq_getElem hl]; rfl
  rw [List.drop_eq_getElem_cons hl, hg, lastW]
  rfl
theorem rdB_two (x : Bs) (j : Nat) (h : j + 1 < x.length) : rdB (x.drop j) = (digR x[j] * 16 + digR x[j + 1]) :: rdB (x.drop (j + 2)) := by
  rw [drop_two x j h, rdB]
theorem rdB_short {x : Bs} (h : x.length ≤ 1) : rdB x = [] := by
  match x, h with
  | [], _ => rfl
  | [_], _ => rfl
theorem slice_tail (g k n cap : Nat) (hc : n + 1 ≤ cap) : ∃ k' cap', (0 < n → k' = k + 1) ∧ n ≤ cap' ∧ ∀ W, (Instr.slice 43 (.slice (some ⟨g, k, none⟩) (n + 1) cap) (some (.int .i64 1)) none none).run Tryz.prog W = .ok (.slice (some ⟨g, k', none⟩) n cap') W := by
  obtain ⟨i0, hi0, -, hz1, -⟩ := info_parts infoStr
  have hsz : ∀ W, (sizeOf 9).run Tryz.prog W = .ok 1 W := fun W => by simp [sizeOf, typeInfo, hi0, hz1]
  have hr : ∀ W, (Instr.slice 43 (.slice (some ⟨g, k, none⟩) (n + 1) cap) (some (.int .i64 1)) none none).run Tryz.prog W = .ok (sliced (some ⟨g, k, none⟩) 1 (n + 1) cap 1) W := fun W => by
    rw [run_slice_l W 43 (some ⟨g, k, none⟩) (n + 1) cap (by kernel_rfl) .i64 1 (by omega) (by omega)]
    have : Tryz.prog.elem 43 = 9 := by kernel_rfl
    rw [this, hsz]
    rfl
  by_cases h1 : cap = 1
  · refine ⟨k, 0, fun h => by omega, by omega, fun W => ?_⟩
    rw [hr W, h1]
    obtain rfl : n = 0 := by omega
    rfl
  · refine ⟨k + 1, cap - 1, fun _ => rfl, by omega, fun W => ?_⟩
    rw [hr W]
    unfold sliced
    rw [if_neg h1]
    simp [add_flat]
/-- a list's first one is cut off -/
theorem texts_tail (w : World) (B : Nat) (A : Option Addr) (x : Bs) (r : List Bs) (n cap : Nat) (hn : r.length = n) (h : TextsAt w B A (x :: r)) (hc : n + 1 ≤ cap) : ∃ A' cap', n ≤ cap' ∧ TextsAt w B A' r ∧ ∀ W, (Instr.slice 43 (.slice A (n + 1) cap) (some (.int .i64 1)) none none).run Tryz.prog W = .ok (.slice A' n cap') W := by
  obtain ⟨b, off, rfl, hlt, hcl⟩ := h (by simp)
  obtain ⟨k', cap', h1, h2, h3⟩ := slice_tail b off n cap hc
  refine ⟨some ⟨b, k', none⟩, cap', h2, fun hne => ⟨b, k', rfl, hlt, fun j y hy => ?_⟩, h3⟩
  rw [h1 (by rw [← hn]; exact List.length_pos_iff.2 hne), Nat.add_assoc, Nat.add_comm 1 j]
  exact hcl (j + 1) y (by rw [List.getElem?_cons_succ]; exact hy)
theorem conn_yes {v : Int} (h : hasConn v = true) : v = 0 ∨ v = 1 ∨ v = 2 ∨ v = 3 ∨ v = 6 := by
  simpa [hasConn, or_assoc] using h
theorem conn_no {v : Int} (h : hasConn v = false) : (v == 0) = false ∧ (v == 1) = false ∧ (v == 2) = false ∧ (v == 3) = false ∧ (v == 6) = false := by
  simpa [hasConn, and_assoc] using h
theorem tail_2 (w w3 : Int → Int) (c : Cmd) (p : Bs) (ps : List Bs) (h : c.verb = 2) : readTail w w3 c (p :: ps) = { c with req := readReq w ps { c.req with id := w3 (readN w p) } } := by simp only [readTail, if_pos h]
theorem tail_3 (w w3 : Int → Int) (c : Cmd) (p : Bs) (ps : List Bs) (h : c.verb = 3) : readTail w w3 c (p :: ps) = { c with raw := rdB p } := by simp only [readTail]; rw [if_neg (by omega), if_pos h]
theorem tail_5 (w w3 : Int → Int) (c : Cmd) (p : Bs) (ps : List Bs) (h : c.verb = 5 ∨ c.verb = 8) : readTail w w3 c (p :: ps) = { c with picks := (p :: ps).map (readN w) } := by simp only [readTail]; rw [if_neg (by omega), if_neg (by omega), if_pos h]
theorem tail_n (w w3 : Int → Int) (c : Cmd) (p : Bs) (ps : List Bs) (h : c.verb ≠ 2 ∧ c.verb ≠ 3 ∧ c.verb ≠ 5 ∧ c.verb ≠ 8) : readTail w w3 c (p :: ps) = { c with n := readN w p } := by simp only [readTail]; rw [if_neg h.1, if_neg h.2.1, if_neg (by omega)]
/-- what is read behind a verb -/
def readAfter (w w3 : Int → Int) (v : Int) : List Bs → Cmd
  | [] => { cmd0 with verb := v }
  | q :: qs => if hasConn v = true then readTail w w3 { cmd0 with verb := v, conn := readN w q } qs else readTail w w3 { cmd0 with verb := v, conn := 0 } (q :: qs)
theorem readR_cons (w w3 : Int → Int) (s p : Bs) (ps : List Bs) (h : cutL [] false false s = p :: ps) (v : Int) (hv : lastW p verbWords 0 (-1) = v) : readR w w3 s = readAfter w w3 v ps := by
  unfold readR
  rw [h]
  simp only [hv]
  cases ps <;> rfl
theorem after_yes (w w3 : Int → Int) {v : Int} (h : hasConn v = true) (q : Bs) (qs : List Bs) : readAfter w w3 v (q :: qs) = readTail w w3 { cmd0 with verb := v, conn := readN w q } qs := by simp only [readAfter]; rw [if_pos h]
theorem after_no (w w3 : Int → Int) {v : Int} (h : hasConn v = false) (q : Bs) (qs : List Bs) : readAfter w w3 v (q :: qs) = readTail w w3 { cmd0 with verb := v, conn := 0 } (q :: qs) := by simp only [readAfter]; rw [if_neg (by rw [h]; decide)]

def ReadPost (s : Bs) (w : World) (e : Ending) (w' : World) : Prop :=
  ∃ sR sP, e = .returned (.agg (cmdC (readR wrap64 w32 s) sR sP)) ∧ Below w.heap.size w w' ∧ w'.ownsRow w.heap.size 5 1 sR (readR wrap64 w32 s).raw.length (byteCells (readR wrap64 w32 s).raw) ∧ w'.ownsRow w.heap.size 3 1 sP (readR wrap64 w32 s).picks.length (intC (readR wrap64 w32 s).picks)

set_option maxRecDepth 100000 in
set_option maxHeartbeats 16000000 in
set_option linter.unusedSimpArgs false in
theorem rread_any (s : Bs) (hs : s.length ≤ 1048576) (w : World) : Calls Tryz.prog 32 #[.string (S s)] w (ReadPost s w) := by
  obtain ⟨iB, hiB, hb0_, hb1_, hb2_⟩ := info_parts infoByte
  obtain ⟨iI, hiI, hi0_, hi1_, hi2_⟩ := info_parts infoInt8
  have hbc : Below w.heap.size w (w.alloc (.cells #[.int .i64 0, .int .i64 0, .int .u32 0, .int .i64 0, .string ⟨#[]⟩, .string ⟨#[]⟩, .string ⟨#[]⟩, .int .i64 0, .int .i64 0, .int .i64 0, .int .i64 0, .slice none 0 0, .int .i64 0, .slice none 0 0] 28)) := (Below.refl _ _).alloc (Nat.le_refl _) _
  have hTC := Blk.new w 28 #[.int .i64 0, .int .i64 0, .int .u32 0, .int .i64 0, .string ⟨#[]⟩, .string ⟨#[]⟩, .string ⟨#[]⟩, .int .i64 0, .int .i64 0, .int .i64 0, .int .i64 0, .slice none 0 0, .int .i64 0, .slice none 0 0]
  unfold ReadPost
  obtain ⟨res, hres⟩ : ∃ c, readR wrap64 w32 s = c := ⟨_, rfl⟩
  rw [hres]
  have HRES := Lib.hid hres
  clear hres
  go_enter Tryz.func32, Tryz.ntmps32
  go_upto_region 1 with fail
  generalize hw0 : w.alloc _ = w0 at hbc hTC ⊢
  clear hw0
  have HB0 := Lib.hid hbc
  have HTC := Lib.hid hTC
  clear hbc hTC
  go_wp2_with fail
  refine (rparts_any s hs w0).mono ?_
  rintro e w1 ⟨v, rfl, ho, hb1⟩
  obtain ⟨ps, hps⟩ : ∃ x, cutL [] false false s = x := ⟨_, rfl⟩
  have HLEN := cutL_lens s [] false false
  have HNE := cutL_ne s [] false false
  rw [hps] at ho HLEN HNE
  obtain ⟨p, rest, rfl⟩ := List.exists_cons_of_ne_nil (List.length_pos_iff.1 HNE)
  obtain ⟨g, cap, rfl, hg0, hg1, hcap, hcl⟩ := own_read ho HNE
  have HLP : Hid (∀ x ∈ rest, x.length ≤ 1048576) := Lib.hid fun x hx => by
    have := HLEN.2 x (List.mem_cons_of_mem _ hx)
    simp only [List.length_nil] at this
    omega
  have HLNr : Hid (rest.length ≤ 1048576) := Lib.hid (by
    have := HLEN.1
    simp only [List.length_cons] at this
    omega)
  have HTX : Hid (∀ W, Below w1.heap.size w1 W → TextsAt W w1.heap.size (some ⟨g, 0, none⟩) (p :: rest)) := Lib.hid fun W hW _ => ⟨g, 0, rfl, hg1, fun j x hx => (hW.cell (p := ⟨g, 0 + j, none⟩) hg1).trans (hcl j _ (by simp only [strV, List.getElem?_map, hx, Option.map_some]))⟩
  have HQ0 : Hid (∀ W, Below w1.heap.size w1 W → W.cell? ⟨g, 0, none⟩ = some (.string (S p))) := Lib.hid fun W hW => (hW.cell (p := ⟨g, 0, none⟩) hg1).trans (hcl 0 _ rfl)
  have HB1 : Hid (Below w.heap.size w w1) := HB0.out.trans (hb1.mono HB0.out.size)
  have HTC1 : Hid (Blk w1 w.heap.size 28 #[.int .i64 0, .int .i64 0, .int .u32 0, .int .i64 0, .string ⟨#[]⟩, .string ⟨#[]⟩, .string ⟨#[]⟩, .int .i64 0, .int .i64 0, .int .i64 0, .int .i64 0, .slice none 0 0, .int .i64 0, .slice none 0 0]) := HTC.out.below hb1 HTC.out.lt
  have HSZ1 : Hid (w.heap.size < w1.heap.size) := HTC1.out.lt
  rw [List.length_cons] at hcap ⊢
  obtain ⟨m0, hm0⟩ : ∃ n, rest.length = n := ⟨_, rfl⟩
  have HM0 := Lib.hid hm0
  rw [hm0] at hcap ⊢
  have HPS := Lib.hid hps
  clear hm0 hps ho hb1 hcl HLEN HNE hg0 hg1 HTC HB0 hs
  go_upto_region 3 with (first
    | ((with_reducible refine at_op ⟨_, .store 28 (.tmp 4) (.tmp 10), _, _, _, _⟩ ?_); refine wpList_store_blk rfl 28 (.tmp 4) (.tmp 10) rfl w1.heap.size 0 rfl (cmdL { cmd0 with verb := -1 } nilS nilS) rfl (cmdL_onel _ _ _ rfl rfl) 28 zC (Blk.new w1 28 zC) (show 0 + 14 ≤ 14 from Nat.le_refl 14) (by kernel_rfl) ?_; rw [put_cmd _ rfl]; intro w2 hT2 hg2 hs2; have HT2 := Lib.hid hT2; have HB2 : Hid (Below w1.heap.size w1 w2) := below_gb ((Below.refl _ _).alloc (Nat.le_refl _) _) hg2 (le_alloc _ (Nat.le_refl _)) (Nat.le_refl _); clear hT2 hg2 hs2)
    | fail)
  go_wp2_with fail
  go_loopw [5] (fun s5 wr => ∃ (k : Nat) (z : Int), k ≤ 11 ∧ -1 ≤ z ∧ z ≤ 10 ∧ s5 = .int .i64 (k : Int) ∧ Hid (lastW p verbWords 0 (-1) = lastW p (verbWords.drop k) (k : Int) z) ∧ Hid (Blk wr w1.heap.size 28 (cmdC { cmd0 with verb := z } nilS nilS)) ∧ Hid (Below w1.heap.size w1 wr)) (fun s5 _ => 11 - (intOf s5).toNat)
  case atStart => exact ⟨0, -1, Nat.zero_le _, by omega, by omega, rfl, Lib.hid rfl, HT2, HB2⟩
  case round =>
    clear HT2 HB2
    obtain ⟨k, z, hk, hz0, hz1, rfl, HLW, HTr, HBr⟩ := hrel
    by_cases hlt : k < 11
    · obtain ⟨wk, hwk⟩ : ∃ x, verbWords.getD k [] = x := ⟨_, rfl⟩
      have HOPW : Hid (∀ W, Calls Tryz.prog 25 #[.int .i64 (k : Int)] W fun e w' => e = .returned (.string (S wk)) ∧ Below W.heap.size W w') := Lib.hid fun W => by
        have := verbW_any (k : Int) (by unfold I64; omega) W
        rw [if_pos (by omega), Int.toNat_natCast, hwk] at this
        exact this
      have HLW2 : Hid (lastW p verbWords 0 (-1) = lastW p (verbWords.drop (k + 1)) ((k + 1 : Nat) : Int) (if wk = p then (k : Int) else z)) := Lib.hid (by rw [HLW.out, lastV_more p k z hlt, hwk])
      have k0 : ∀ W, Below wr.heap.size wr W → W.cell? ⟨g, 0, none⟩ = some (.string (S p)) := fun W hW => HQ0.out W (HBr.out.trans (hW.mono HBr.out.size))
      clear hwk HLW
      by_cases he : wk = p
      · subst he
        rw [if_pos rfl] at HLW2
        go_upto_region 6 with fail
        first
          | go_region_held3 (fun w' => Below wr.heap.size wr w') (first | assumption | exact (Below.refl _ _).drew | fail)
              (first
                | (go_at_call 25; (with_reducible refine (HOPW.out _).mono ?_); rintro e1 w3 ⟨rfl, hb3⟩; have HK3 : Below wr.heap.size wr w3 := ((Below.refl _ _).drew).trans (hb3.mono (Nat.le_refl _)); clear hb3)
                | fail)
          | fail
        all_goals
          have hT := HTr.out.below HK3 HTr.out.lt
          have c1 : w3.cell? ⟨w1.heap.size, 0, none⟩ = some (.int .i64 z) := hT.cell 0
          have z1 := hT.frozen 0
          have HQ : Hid (Blk (w3.setCell ⟨w1.heap.size, 0, none⟩ (.int .i64 (k : Int))) w1.heap.size 28 (cmdC { cmd0 with verb := (k : Int) } nilS nilS)) := hT.set_ 0 _
          have HBn : Hid (Below w1.heap.size w1 (w3.setCell ⟨w1.heap.size, 0, none⟩ (.int .i64 (k : Int)))) := (HBr.out.trans (HK3.mono HBr.out.size)).setCell (p := ⟨w1.heap.size, 0, none⟩) (Nat.le_refl _) _
          clear hT k0
          go_wp2_with fail
          go_roundw
          case rel => exact ⟨k + 1, (k : Int), by omega, by omega, by omega, by go_num, HLW2, HQ, HBn⟩
          case measure => simp [intOf]; omega
      · have hne : ((S wk).toList == (S p).toList) = false := by rw [beq_eq_false_iff_ne, S_list, S_list]; exact he
        rw [if_neg he] at HLW2
        go_upto_region 6 with fail
        first
          | go_region_held3 (fun w' => Below wr.heap.size wr w') (first | assumption | exact (Below.refl _ _).drew | fail)
              (first
                | (go_at_call 25; (with_reducible refine (HOPW.out _).mono ?_); rintro e1 w3 ⟨rfl, hb3⟩; have HK3 : Below wr.heap.size wr w3 := ((Below.refl _ _).drew).trans (hb3.mono (Nat.le_refl _)); clear hb3)
                | fail)
          | fail
        all_goals
          have HQ : Hid (Blk w3 w1.heap.size 28 (cmdC { cmd0 with verb := z } nilS nilS)) := HTr.out.below HK3 HTr.out.lt
          have HBn : Hid (Below w1.heap.size w1 w3) := HBr.out.trans (HK3.mono HBr.out.size)
          clear k0
          go_wp2_with fail
          go_roundw
          case rel => exact ⟨k + 1, z, by omega, hz0, hz1, by go_num, HLW2, HQ, HBn⟩
          case measure => simp [intOf]; omega
    · obtain rfl : k = 11 := by omega
      have hz : lastW p verbWords 0 (-1) = z := by rw [HLW.out]; rfl
      have hrr := readR_cons wrap64 w32 s p rest HPS.out z hz
      rw [HRES.out] at hrr
      have HRR := Lib.hid hrr
      clear hz hrr HLW
      obtain ⟨A1, cap1, hcap1, hTX1, hsl1⟩ := texts_tail w1 w1.heap.size (some ⟨g, 0, none⟩) p rest m0 cap HM0.out (HTX.out w1 (Below.refl _ _)) hcap
      have HTX1 : Hid (∀ W, Below w1.heap.size w1 W → TextsAt W w1.heap.size A1 rest) := Lib.hid fun W hW => hTX1.keep hW
      clear hTX1 HTX HQ0
      have c0 : wr.cell? ⟨w1.heap.size, 0, none⟩ = some (.int .i64 z) := HTr.out.cell 0
      go_upto_region 8 with fail
      repeat ((fail_if_success (with_reducible refine at_seq ?_)); first | go_step | go_upon)
      go_step
      go_cut [3] (fun s3 wx => ∃ (A2 : Option Addr) (m2 cap2 : Nat) (cn : Int) (l2 : List Bs), s3 = .slice A2 m2 cap2 ∧ Hid (l2.length = m2) ∧ m2 ≤ cap2 ∧ m2 ≤ 1048576 ∧ Hid (∀ x ∈ l2, x.length ≤ 1048576) ∧ Hid (∀ W, Below w1.heap.size w1 W → TextsAt W w1.heap.size A2 l2) ∧ Hid (res = readTail wrap64 w32 { cmd0 with verb := z, conn := cn } l2) ∧ Hid (Blk wx w1.heap.size 28 (cmdC { cmd0 with verb := z, conn := cn } nilS nilS)) ∧ Hid (Below w1.heap.size w1 wx))
      case first =>
        have hm0 : m0 ≤ 1048576 := by rw [← HM0.out]; exact HLNr.out
        by_cases h0 : m0 = 0
        · subst h0
          obtain rfl : rest = [] := List.eq_nil_of_length_eq_zero HM0.out
          go_wp2_with fail
          go_meet
          exact ⟨A1, 0, cap1, 0, [], rfl, Lib.hid rfl, hcap1, Nat.zero_le _, HLP, HTX1, Lib.hid (by rw [HRR.out]; rfl), HTr, HBr⟩
        · obtain ⟨q, qs, rfl⟩ := List.exists_cons_of_ne_nil (fun e => h0 (by rw [← HM0.out, e]; rfl) : rest ≠ [])
          have hpos : (0 : Int) < (m0 : Int) := by omega
          cases hcn : hasConn z with
          | false =>
            obtain ⟨n0, n1, n2, n3, n6⟩ := conn_no hcn
            have HRR2 : Hid (res = readTail wrap64 w32 { cmd0 with verb := z, conn := 0 } (q :: qs)) := Lib.hid (by
              rw [HRR.out, after_no _ _ hcn])
            clear hcn
            go_wp2_with fail
            go_meet
            exact ⟨A1, m0, cap1, 0, q :: qs, rfl, HM0, hcap1, hm0, HLP, HTX1, HRR2, HTr, HBr⟩
          | true =>
            have HRR2 : Hid (res = readTail wrap64 w32 { cmd0 with verb := z, conn := readN wrap64 q } qs) := Lib.hid (by
              rw [HRR.out, after_yes _ _ hcn])
            have hvz := conn_yes hcn
            obtain ⟨m1, rfl⟩ : ∃ n, m0 = n + 1 := ⟨m0 - 1, by omega⟩
            have HM1 : Hid (qs.length = m1) := Lib.hid (by have := HM0.out; simpa using this)
            obtain ⟨b, off, rfl, hb, hcl⟩ := HTX1.out wr HBr.out (by simp)
            have q0 : wr.cell? ⟨b, off, none⟩ = some (.string (S q)) := hcl 0 q rfl
            obtain ⟨A2, cap2, hcap2, hTX2, hsl2⟩ := texts_tail w1 w1.heap.size (some ⟨b, off, none⟩) q qs m1 cap1 HM1.out (HTX1.out w1 (Below.refl _ _)) hcap1
            have HTX2 : Hid (∀ W, Below w1.heap.size w1 W → TextsAt W w1.heap.size A2 qs) := Lib.hid fun W hW => hTX2.keep hW
            have hql : q.length ≤ 1048576 := HLP.out q List.mem_cons_self
            have HLQ : Hid (∀ x ∈ qs, x.length ≤ 1048576) := Lib.hid fun x hx => HLP.out x (List.mem_cons_of_mem _ hx)
            clear hcn hTX2 hb hcl HTX1 HRR
            rcases hvz with rfl | rfl | rfl | rfl | rfl
            all_goals
              go_wp2_with fail
              refine (rnum_any q hql wr).mono ?_
              rintro e w3 ⟨rfl, rfl⟩
              have c1 : w3.cell? ⟨w1.heap.size, 1, none⟩ = some (.int .i64 0) := HTr.out.cell 1
              have z1 := HTr.out.frozen 1
              have HQ : Hid (Blk (w3.setCell ⟨w1.heap.size, 1, none⟩ (.int .i64 (readN wrap64 q))) w1.heap.size 28 (cmdC { cmd0 with verb := _, conn := readN wrap64 q } nilS nilS)) := HTr.out.set_ 1 _
              have HBn : Hid (Below w1.heap.size w1 (w3.setCell ⟨w1.heap.size, 1, none⟩ (.int .i64 (readN wrap64 q)))) := HBr.out.setCell (p := ⟨w1.heap.size, 1, none⟩) (Nat.le_refl _) _
              go_wp2_with fail
              go_meet
              exact ⟨A2, m1, cap2, readN wrap64 q, qs, rfl, HM1, hcap2, by omega, HLQ, HTX2, HRR2, HQ, HBn⟩
      case rest =>
        obtain ⟨A2, m2, cap2, cn, l2, rfl, HM2, hcap2, hm2, HL2, HTX2, HRT, HTc, HBc⟩ := hcut
        clear HTX1 HRR hsl1 hcap1 HTr HBr c0 HLP HLNr HM0 HRES hcap
        have c0 : wc.cell? ⟨w1.heap.size, 0, none⟩ = some (.int .i64 z) := HTc.out.cell 0
        by_cases h0 : m2 = 0
        · subst h0
          obtain rfl : l2 = [] := List.eq_nil_of_length_eq_zero HM2.out
          have HF : Hid (res = { cmd0 with verb := z, conn := cn }) := HRT.out
          have HTF : Hid (Blk _ w.heap.size 28 #[.int .i64 0, .int .i64 0, .int .u32 0, .int .i64 0, .string ⟨#[]⟩, .string ⟨#[]⟩, .string ⟨#[]⟩, .int .i64 0, .int .i64 0, .int .i64 0, .int .i64 0, .slice none 0 0, .int .i64 0, .slice none 0 0]) := HTC1.out.below HBc.out HSZ1.out
          go_wp2_with (first
            | ((with_reducible refine at_op ⟨_, .load 28 (.tmp 4), _, _, _, _⟩ ?_); refine wpList_load_list rfl 28 (.tmp 4) rfl ⟨w1.heap.size, 0, none⟩ rfl (cmdL { cmd0 with verb := z, conn := cn } nilS nilS) (cmd_load HTc.out) _ Tryz.underlying28 rfl (by kernel_rfl) ?_)
            | ((with_reducible refine at_op ⟨_, .store 28 (.tmp 2) (.tmp 144), _, _, _, _⟩ ?_); refine wpList_store_blk rfl 28 (.tmp 2) (.tmp 144) rfl w.heap.size 0 rfl (cmdL { cmd0 with verb := z, conn := cn } nilS nilS) rfl (cmdL_onel _ _ _ rfl rfl) 28 _ HTF.out (show 0 + 14 ≤ 14 from Nat.le_refl 14) (by kernel_rfl) ?_; intro w9 hT9 hg9 hs9; rw [put_cmd _ rfl] at hT9; have HT9 := Lib.hid hT9; have HG9 := Lib.hid hg9; clear hT9 hg9 hs9)
            | fail)
          refine bodyPost_ret (results_cell_row rfl _ _ w.heap.size 28 (cmdC { cmd0 with verb := z, conn := cn } nilS nilS) (0, 0) _ rfl HT9.out Tryz.underlying28 rfl (by kernel_rfl)) rfl ?_
          rw [HF.out]
          exact ⟨_, _, rfl, below_gb (HB1.out.trans (HBc.out.mono (Nat.le_of_lt HSZ1.out))) HG9.out (Nat.le_trans (Nat.le_of_lt HSZ1.out) HBc.out.size) (Nat.le_refl _), own_nilV _ _ _ _, own_nilV _ _ _ _⟩
        obtain ⟨x, r, rfl⟩ := List.exists_cons_of_ne_nil (fun e => h0 (by rw [← HM2.out, e]; rfl) : l2 ≠ [])
        obtain ⟨m3, rfl⟩ : ∃ n, m2 = n + 1 := ⟨m2 - 1, by omega⟩
        have HM3 : Hid (r.length = m3) := Lib.hid (by have := HM2.out; simpa using this)
        obtain ⟨b, off, rfl, hb, -⟩ := HTX2.out wc HBc.out (by simp)
        have HQX : Hid (∀ W, Below w1.heap.size w1 W → ∀ (j : Nat) (y : Bs), (x :: r)[j]? = some y → W.cell? ⟨b, off + j, none⟩ = some (.string (S y))) := Lib.hid fun W hW j y hy => by
          obtain ⟨b', off', e, -, hcl⟩ := HTX2.out W hW (by simp)
          injection e with e
          injection e with e1 e2
          subst e1 e2
          exact hcl j y hy
        have q0 : wc.cell? ⟨b, off, none⟩ = some (.string (S x)) := HQX.out wc HBc.out 0 x rfl
        have hxl : x.length ≤ 1048576 := HL2.out x List.mem_cons_self
        have hnn : ((m3 : Int) + 1 == 0) = false := by rw [beq_eq_false_iff_ne]; omega
        clear h0 hb
        by_cases h2 : z = 2
        · subst h2
          have HF : Hid (res = _) := Lib.hid (HRT.out.trans (tail_2 wrap64 w32 _ x r rfl))
          clear HRT
          obtain ⟨A3, cap3, hcap3, hTX3, hsl3⟩ := texts_tail w1 w1.heap.size (some ⟨b, off, none⟩) x r m3 cap2 HM3.out (HTX2.out w1 (Below.refl _ _)) hcap2
          have HTX3 : Hid (∀ W, Below w1.heap.size w1 W → TextsAt W w1.heap.size A3 r) := Lib.hid fun W hW => hTX3.keep hW
          have HL3 : Hid (∀ y ∈ r, y.length ≤ 1048576) := Lib.hid fun y hy => HL2.out y (List.mem_cons_of_mem _ hy)
          clear hTX3
          go_wp2_with fail
          refine (rnum_any x hxl wc).mono ?_
          rintro e w3 ⟨rfl, rfl⟩
          obtain ⟨id, hid⟩ : ∃ y, IntKind.u32.wrap (readN wrap64 x) = y := ⟨_, rfl⟩
          have hid2 : readN wrap64 x % 4294967296 = id := by rw [← hid, IntKind.wrap_u32]
          have c2 : w3.cell? ⟨w1.heap.size, 2, none⟩ = some (.int .u32 0) := HTc.out.cell 2
          have z2 := HTc.out.frozen 2
          have HT4 : Hid (Blk (w3.setCell ⟨w1.heap.size, 2, none⟩ (.int .u32 id)) w1.heap.size 28 (cmdC { cmd0 with verb := 2, conn := cn, req := { req0 with id := id } } nilS nilS)) := HTc.out.set_ 2 _
          have HB4 : Hid (Below w1.heap.size w1 (w3.setCell ⟨w1.heap.size, 2, none⟩ (.int .u32 id))) := HBc.out.setCell (p := ⟨w1.heap.size, 2, none⟩) (Nat.le_refl _) _
          have HF2 : Hid (res = { cmd0 with verb := 2, conn := cn, req := readReq wrap64 r { req0 with id := id } }) := Lib.hid (by rw [HF.out, ← hid]; rfl)
          clear HF
          go_upto_region 16 with fail
          generalize hw4 : w3.setCell _ _ = w4 at HT4 HB4 ⊢
          clear hw4 hid hid2 c2 z2 c0 q0
          obtain ⟨rq, hrq⟩ : ∃ q, readReq wrap64 r { req0 with id := id } = q := ⟨_, rfl⟩
          obtain ⟨ag, hag⟩ : ∃ a, reqA rq = a := ⟨_, rfl⟩
          have HREQ : Hid (∀ W, Below w4.heap.size w4 W → Calls Tryz.prog 71 #[.slice A3 m3 cap3, .agg #[.int .u32 id, .int .i64 0, .string ⟨#[]⟩, .string ⟨#[]⟩, .string ⟨#[]⟩, .int .i64 0, .int .i64 0, .int .i64 0, .int .i64 0]] W fun e w' => e = .returned (.agg ag) ∧ Below W.heap.size W w') := Lib.hid fun W hW => by
            have hBW := HB4.out.trans (hW.mono HB4.out.size)
            have := rreq_any r A3 cap3 { req0 with id := id } W ((HTX3.out W hBW).up hBW.size) (by rw [HM3.out]; omega) HL3.out
            rw [hrq, hag, HM3.out] at this
            exact this
          have HAS : Hid (ag.toList = reqC rq) := Lib.hid (by rw [← hag]; rfl)
          rw [hrq] at HF2
          clear hrq hag
          have k2 : ∀ W, Below w4.heap.size w4 W → W.cell? ⟨w1.heap.size, 2, none⟩ = some (.int .u32 id) := fun W hb => (HT4.out.below hb HT4.out.lt).cell 2
          have k3 : ∀ W, Below w4.heap.size w4 W → W.cell? ⟨w1.heap.size, 3, none⟩ = some (.int .i64 0) := fun W hb => (HT4.out.below hb HT4.out.lt).cell 3
          have k4 : ∀ W, Below w4.heap.size w4 W → W.cell? ⟨w1.heap.size, 4, none⟩ = some (.string ⟨#[]⟩) := fun W hb => (HT4.out.below hb HT4.out.lt).cell 4
          have k5 : ∀ W, Below w4.heap.size w4 W → W.cell? ⟨w1.heap.size, 5, none⟩ = some (.string ⟨#[]⟩) := fun W hb => (HT4.out.below hb HT4.out.lt).cell 5
          have k6 : ∀ W, Below w4.heap.size w4 W → W.cell? ⟨w1.heap.size, 6, none⟩ = some (.string ⟨#[]⟩) := fun W hb => (HT4.out.below hb HT4.out.lt).cell 6
          have k7 : ∀ W, Below w4.heap.size w4 W → W.cell? ⟨w1.heap.size, 7, none⟩ = some (.int .i64 0) := fun W hb => (HT4.out.below hb HT4.out.lt).cell 7
          have k8 : ∀ W, Below w4.heap.size w4 W → W.cell? ⟨w1.heap.size, 8, none⟩ = some (.int .i64 0) := fun W hb => (HT4.out.below hb HT4.out.lt).cell 8
          have k9 : ∀ W, Below w4.heap.size w4 W → W.cell? ⟨w1.heap.size, 9, none⟩ = some (.int .i64 0) := fun W hb => (HT4.out.below hb HT4.out.lt).cell 9
          have k10 : ∀ W, Below w4.heap.size w4 W → W.cell? ⟨w1.heap.size, 10, none⟩ = some (.int .i64 0) := fun W hb => (HT4.out.below hb HT4.out.lt).cell 10
          have j2 := k2 w4 (Below.refl _ _)
          have j3 := k3 w4 (Below.refl _ _)
          have j4 := k4 w4 (Below.refl _ _)
          have j5 := k5 w4 (Below.refl _ _)
          have j6 := k6 w4 (Below.refl _ _)
          have j7 := k7 w4 (Below.refl _ _)
          have j8 := k8 w4 (Below.refl _ _)
          have j9 := k9 w4 (Below.refl _ _)
          have j10 := k10 w4 (Below.refl _ _)
          first
            | go_region_law (first
                  | (go_simp; go_at_call 71; (with_reducible refine (HREQ.out _ (by first | assumption | exact (Below.refl _ _).drew)).mono ?_); rintro e5 w5 ⟨rfl, hb5⟩; have HK5 : Below w4.heap.size w4 w5 := ((Below.refl _ _).drew).trans (hb5.mono (Nat.le_refl _)); obtain ⟨w6, hst6, hT6, hg6, -⟩ := run_storeCells_blk (P := Tryz.prog) w1.heap.size 2 28 ag.toList 0 _ w5 (HT4.out.below HK5 HT4.out.lt) (by rw [HAS.out]; exact reqC_one rq) (by rw [HAS.out]; show 2 + 0 + 9 ≤ 14; omega); rw [HAS.out, Nat.add_zero, put_q] at hT6; have HT6 := Lib.hid hT6; have HB6 : Hid (Below w1.heap.size w1 w6) := below_gb (HB4.out.trans (HK5.mono HB4.out.size)) hg6 (Nat.le_trans HB4.out.size HK5.size) (Nat.le_refl _); have hagz : ag.size = 9 := (by rw [← Array.length_toList, HAS.out]; rfl); clear hb5 hT6 hg6)
                  | fail)
            | fail
          all_goals
            clear k2 k3 k4 k5 k6 k7 k8 k9 k10 j2 j3 j4 j5 j6 j7 j8 j9 j10
            have HTF : Hid (Blk _ w.heap.size 28 #[.int .i64 0, .int .i64 0, .int .u32 0, .int .i64 0, .string ⟨#[]⟩, .string ⟨#[]⟩, .string ⟨#[]⟩, .int .i64 0, .int .i64 0, .int .i64 0, .int .i64 0, .slice none 0 0, .int .i64 0, .slice none 0 0]) := HTC1.out.below HB6.out HSZ1.out
            go_wp2_with (first
              | ((with_reducible refine at_op ⟨_, .load 28 (.tmp 4), _, _, _, _⟩ ?_); refine wpList_load_list rfl 28 (.tmp 4) rfl ⟨w1.heap.size, 0, none⟩ rfl (cmdL { cmd0 with verb := 2, conn := cn, req := rq } nilS nilS) (cmd_load HT6.out) _ Tryz.underlying28 rfl (by kernel_rfl) ?_)
              | ((with_reducible refine at_op ⟨_, .store 28 (.tmp 2) (.tmp 144), _, _, _, _⟩ ?_); refine wpList_store_blk rfl 28 (.tmp 2) (.tmp 144) rfl w.heap.size 0 rfl (cmdL { cmd0 with verb := 2, conn := cn, req := rq } nilS nilS) rfl (cmdL_onel _ _ _ rfl rfl) 28 _ HTF.out (show 0 + 14 ≤ 14 from Nat.le_refl 14) (by kernel_rfl) ?_; intro w9 hT9 hg9 hs9; rw [put_cmd _ rfl] at hT9; have HT9 := Lib.hid hT9; have HG9 := Lib.hid hg9; clear hT9 hg9 hs9)
              | fail)
            refine bodyPost_ret (results_cell_row rfl _ _ w.heap.size 28 (cmdC { cmd0 with verb := 2, conn := cn, req := rq } nilS nilS) (0, 0) _ rfl HT9.out Tryz.underlying28 rfl (by kernel_rfl)) rfl ?_
            rw [HF2.out]
            exact ⟨_, _, rfl, below_gb (HB1.out.trans (HB6.out.mono (Nat.le_of_lt HSZ1.out))) HG9.out (Nat.le_trans (Nat.le_of_lt HSZ1.out) HB6.out.size) (Nat.le_refl _), own_nilV _ _ _ _, own_nilV _ _ _ _⟩
        have n2 : (z == 2) = false := by rw [beq_eq_false_iff_ne]; exact h2
        by_cases h3 : z = 3
        · subst h3
          have HF : Hid (res = { cmd0 with verb := 3, conn := cn, raw := rdB x }) := Lib.hid (HRT.out.trans (tail_3 wrap64 w32 _ x r rfl))
          clear HRT
          have hsz : (S x).size = x.length := S_size _
          obtain ⟨xl, hxle⟩ : ∃ n, x.length = n := ⟨_, rfl⟩
          rw [hxle] at hsz hxl
          have HXL := Lib.hid hxle
          clear hxle
          have HQ1 : Hid (∀ W, Below w1.heap.size w1 W → W.cell? ⟨b, off, none⟩ = some (.string (S x))) := Lib.hid fun W hW => HQX.out W hW 0 x rfl
          clear q0
          go_wp2_with fail
          clear c0
          go_loopw [6] (fun i wr => ∃ (j : Nat) (l : Bs) (v : Value), j ≤ xl + 1 ∧ i = .int .i64 (j : Int) ∧ Hid (rdB x = l ++ rdB (x.drop j)) ∧ Hid (l.length ≤ j) ∧ Hid (wr.ownsRow (w1.heap.size + 1) 5 1 v l.length (byteCells l)) ∧ Hid (Blk wr w1.heap.size 28 (cmdC { cmd0 with verb := 3, conn := cn } v nilS)) ∧ Hid (Below w1.heap.size w1 wr)) (fun i _ => xl + 1 - (intOf i).toNat)
          case atStart => exact ⟨0, [], nilS, Nat.zero_le _, rfl, Lib.hid rfl, Lib.hid (Nat.le_refl _), own_nilV _ _ _ _, HTc, HBc⟩
          case round =>
            obtain ⟨j, l, v, hj, rfl, HRB, HLL, HOW, HTr, HBr⟩ := hrel
            have q1 : wr.cell? ⟨b, off, none⟩ = some (.string (S x)) := HQ1.out wr HBr.out
            by_cases hlt : j + 1 < xl
            · have hlA : j + 1 < x.length := by rw [HXL.out]; exact hlt
              have hix := S_idx x j (by omega)
              have hix2 : ∀ W, (Instr.index 9 (.string (S x)) (.int .i64 ((j : Int) + 1))).run Tryz.prog W = .ok (.int .u8 (x[j + 1].toNat : Int)) W := S_idx x (j + 1) hlA
              have HN : Hid (rdB x = (l ++ [digR x[j] * 16 + digR x[j + 1]]) ++ rdB (x.drop (j + 2))) := Lib.hid (by rw [HRB.out, rdB_two x j hlA]; simp)
              have HLE : Hid (l.length ≤ 1048576) := Lib.hid (by have := HLL.out; omega)
              obtain ⟨h, hh⟩ : ∃ d, x[j] = d := ⟨_, rfl⟩
              obtain ⟨e, he⟩ : ∃ d, x[j + 1] = d := ⟨_, rfl⟩
              rw [hh] at hix HN
              rw [he] at hix2 HN
              obtain ⟨y, hy⟩ : ∃ y, digR h * 16 + digR e = y := ⟨_, rfl⟩
              have HY : Hid (((digR h).toNat * 16 + (digR e).toNat : Int) = (y.toNat : Int)) := Lib.hid (by
                have h1 := digR_lt h
                have h2 := digR_lt e
                rw [← hy, UInt8.toNat_add, UInt8.toNat_mul, show UInt8.toNat 16 = 16 from rfl]
                omega)
              rw [hy] at HN
              have HL2' : Hid ((l ++ [y]).length ≤ j + 2) := Lib.hid (by rw [List.length_append]; have := HLL.out; simp; omega)
              have hdl1 := digR_lt h
              have hdl2 := digR_lt e
              clear hh he hy HRB
              have HDG1 : Hid (∀ W, Calls Tryz.prog 72 #[.int .u8 (h.toNat : Int)] W fun e' w' => e' = .returned (.int .u8 ((digR h).toNat : Int)) ∧ w' = W) := Lib.hid fun W => rdigit_any h W
              have HDG2 : Hid (∀ W, Calls Tryz.prog 72 #[.int .u8 (e.toNat : Int)] W fun e' w' => e' = .returned (.int .u8 ((digR e).toNat : Int)) ∧ w' = W) := Lib.hid fun W => rdigit_any e W
              obtain ⟨n1, hn1⟩ : ∃ n, (digR h).toNat = n := ⟨_, rfl⟩
              obtain ⟨n2', hn2⟩ : ∃ n, (digR e).toNat = n := ⟨_, rfl⟩
              rw [hn1] at hdl1 HY HDG1
              rw [hn2] at hdl2 HY HDG2
              clear hn1 hn2
              obtain ⟨XA, cX, rfl⟩ := own_sl HOW.out
              go_upto_region 21 with fail
              clear q1
              have hM1 : l.length + 1 ≤ maxLen := le_maxLen (by have := HLE.out; omega)
              have hM2 : (l.length + 1) * 1 ≤ 140737488355328 := by have := HLE.out; omega
              have U1 := u8_one n1 hdl1
              have U2 := u8_two n1 n2' y hdl1 hdl2 HY.out
              have X1 := u8_one' n1 hdl1
              have X2 := u8_two' n1 n2' y hdl1 hdl2 HY.out
              have HOWd : Hid ((wr.drew.alloc (.cells #[.int .u8 (y.toNat : Int)] 5)).ownsRow (w1.heap.size + 1) 5 1 (.slice XA l.length cX) l.length (byteCells l)) := Lib.hid ((own_keep (w := wr) HOW.out (Below.refl _ _).drew).alloc _)
              have hSW : w1.heap.size + 1 ≤ wr.heap.size := HTr.out.lt
              have hM3 : w1.heap.size + 1 ≤ (wr.drew.alloc (.cells #[.int .u8 (y.toNat : Int)] 5)).heap.size := le_alloc _ hSW
              have hBd : Below wr.heap.size wr wr.drew := (Below.refl wr.heap.size wr).drew
              have hBa : Below wr.heap.size wr (wr.drew.alloc (.cells #[.int .u8 (y.toNat : Int)] 5)) := hBd.alloc hBd.size _
              have hj1 : j + 1 ≤ xl + 3 := by omega
              have W1 : IntKind.i64.wrap ((j : Int) + 1) = (j : Int) + 1 := w64_in j 1 hxl hj1
              have V1 : wrap64 ((j : Int) + 1) = (j : Int) + 1 := v64_in j 1 hxl hj1
              have hSr : Below (w1.heap.size + 1) wr wr := (Below.refl _ _).mono hSW
              have hSd : Below (w1.heap.size + 1) wr wr.drew := hSr.drew
              have hSa : Below (w1.heap.size + 1) wr (wr.drew.alloc (.cells #[.int .u8 (y.toNat : Int)] 5)) := hSd.alloc hSW _
              have kx : ∀ W, Below (w1.heap.size + 1) wr W → W.cell? ⟨b, off, none⟩ = some (.string (S x)) := fun W hW => HQ1.out W (HBr.out.trans (hW.mono (Nat.le_succ _)))
              have k11 : ∀ W, Below (w1.heap.size + 1) wr W → W.cell? ⟨w1.heap.size, 11, none⟩ = some (.slice XA l.length cX) := fun W hW => (HTr.out.below hW (Nat.lt_succ_self _)).cell 11
              refine wp_regionZ (fun W => Below (w1.heap.size + 1) wr W) 20 (by kernel_rfl) ?_
              refine' wpAnyZ_take (i := 0) (v := _) rfl (by kernel_rfl) (by kernel_rfl) (by kernel_rfl) (by kernel_rfl) (fun _ _ _ h => h) hSd (fun _ => rfl) ?hy1 ?rest1
              case hy1 => (intro W hSW; go_simp; try with_reducible rfl)
              simp only [Act.put, List.setIfInBounds_toArray, List.set_cons_zero, List.set_cons_succ]
              refine' wpAnyZ_take (i := 1) (v := _) rfl (by kernel_rfl) (by kernel_rfl) (by kernel_rfl) (by kernel_rfl) (fun _ _ _ h => h) hSd (fun _ => rfl) ?hy2 ?rest2
              case hy2 => (intro W hSW; go_simp; try with_reducible rfl)
              simp only [Act.put, List.setIfInBounds_toArray, List.set_cons_zero, List.set_cons_succ]
              refine' wpAnyZ_take (i := 2) (v := _) rfl (by kernel_rfl) (by kernel_rfl) (by kernel_rfl) (by kernel_rfl) (fun _ _ _ h => h) hSd (fun _ => rfl) ?hy3 ?rest3
              case hy3 => (intro W hSW; go_simp; try with_reducible rfl)
              simp only [Act.put, List.setIfInBounds_toArray, List.set_cons_zero, List.set_cons_succ]
              refine' wpAnyZ_take (i := 3) (v := _) rfl (by kernel_rfl) (by kernel_rfl) (by kernel_rfl) (by kernel_rfl) (fun _ _ _ h => h) hSd (fun _ => rfl) ?hy4 ?rest4
              case hy4 => (intro W hSW; go_simp; try with_reducible rfl)
              simp only [Act.put, List.setIfInBounds_toArray, List.set_cons_zero, List.set_cons_succ]
              refine' wpAnyZ_take (i := 4) (v := _) rfl (by kernel_rfl) (by kernel_rfl) (by kernel_rfl) (by kernel_rfl) (fun _ _ _ h => h) hSd (fun _ => rfl) ?hy5 ?rest5
              case hy5 => (intro W hSW; go_simp; try with_reducible rfl)
              simp only [Act.put, List.setIfInBounds_toArray, List.set_cons_zero, List.set_cons_succ]
              refine' wpAnyZ_take (i := 5) (v := _) rfl (by kernel_rfl) (by kernel_rfl) (by kernel_rfl) (by kernel_rfl) (fun _ _ _ h => h) hSd (fun _ => rfl) ?hy6 ?rest6
              case hy6 => (intro W hSW; go_simp; try with_reducible rfl)
              simp only [Act.put, List.setIfInBounds_toArray, List.set_cons_zero, List.set_cons_succ]
              refine' wpAnyZ_take (i := 6) (v := _) rfl (by kernel_rfl) (by kernel_rfl) (by kernel_rfl) (by kernel_rfl) (fun _ _ _ h => h) hSd (fun _ => rfl) ?hy7 ?rest7
              case hy7 => (intro W hSW; go_simp; try with_reducible rfl)
              simp only [Act.put, List.setIfInBounds_toArray, List.set_cons_zero, List.set_cons_succ]
              refine' wpAnyZ_take (i := 9) (v := _) rfl (by kernel_rfl) (by kernel_rfl) (by kernel_rfl) (by kernel_rfl) (fun _ _ _ h => h) hSd (fun _ => rfl) ?hy8 ?rest8
              case hy8 => (intro W hSW; go_simp; try with_reducible rfl)
              simp only [Act.put, List.setIfInBounds_toArray, List.set_cons_zero, List.set_cons_succ]
              refine' wpAnyZ_take (i := 10) (v := _) rfl (by kernel_rfl) (by kernel_rfl) (by kernel_rfl) (by kernel_rfl) (fun _ _ _ h => h) hSd (fun _ => rfl) ?hy9 ?rest9
              case hy9 => (intro W hSW; go_simp; try with_reducible rfl)
              simp only [Act.put, List.setIfInBounds_toArray, List.set_cons_zero, List.set_cons_succ]
              refine' wpAnyZ_take (i := 11) (v := _) rfl (by kernel_rfl) (by kernel_rfl) (by kernel_rfl) (by kernel_rfl) (fun _ _ _ h => h) hSd (fun _ => rfl) ?hy10 ?rest10
              case hy10 => (intro W hSW; go_simp; try with_reducible rfl)
              simp only [Act.put, List.setIfInBounds_toArray, List.set_cons_zero, List.set_cons_succ]
              refine' wpAnyZ_take (i := 12) (v := _) rfl (by kernel_rfl) (by kernel_rfl) (by kernel_rfl) (by kernel_rfl) (fun _ _ _ h => h) hSd (fun _ => rfl) ?hy11 ?rest11
              case hy11 => (intro W hSW; go_simp; try with_reducible rfl)
              simp only [Act.put, List.setIfInBounds_toArray, List.set_cons_zero, List.set_cons_succ]
              refine' wpAnyZ_take (i := 13) (v := _) rfl (by kernel_rfl) (by kernel_rfl) (by kernel_rfl) (by kernel_rfl) (fun _ _ _ h => h) hSd (fun _ => rfl) ?hy12 ?rest12
              case hy12 => (intro W hSW; go_simp; try with_reducible rfl)
              simp only [Act.put, List.setIfInBounds_toArray, List.set_cons_zero, List.set_cons_succ]
              refine' wpAnyZ_take (i := 14) (v := _) rfl (by kernel_rfl) (by kernel_rfl) (by kernel_rfl) (by kernel_rfl) (fun _ _ _ h => h) hSd (fun _ => rfl) ?hy13 ?rest13
              case hy13 => (intro W hSW; go_simp; try with_reducible rfl)
              simp only [Act.put, List.setIfInBounds_toArray, List.set_cons_zero, List.set_cons_succ]
              refine wpAnyZ_one (i := 7) (by kernel_rfl) rfl (fun K hK => ?_)
              go_simp
              with_reducible refine (HDG1.out _).mono ?_
              rintro e1 w3 ⟨rfl, rfl⟩
              try go_simp
              refine hK.out _ _ (fun _ => hSd) ?_
              clear hK K
              refine' wpAnyZ_take (i := 8) (v := _) rfl (by kernel_rfl) (by kernel_rfl) (by kernel_rfl) (by kernel_rfl) (fun _ _ _ h => h) hSd (fun _ => rfl) ?hy14 ?rest14
              case hy14 => (intro W hSW; go_simp; try with_reducible rfl)
              simp only [Act.put, List.setIfInBounds_toArray, List.set_cons_zero, List.set_cons_succ]
              refine wpAnyZ_one (i := 15) (by kernel_rfl) rfl (fun K hK => ?_)
              go_simp
              with_reducible refine (HDG2.out _).mono ?_
              rintro e1 w3 ⟨rfl, rfl⟩
              try go_simp
              refine hK.out _ _ (fun _ => hSd) ?_
              clear hK K
              refine' wpAnyZ_take (i := 16) (v := _) rfl (by kernel_rfl) (by kernel_rfl) (by kernel_rfl) (by kernel_rfl) (fun _ _ _ h => h) hSd (fun _ => rfl) ?hy15 ?rest15
              case hy15 => (intro W hSW; go_simp; try with_reducible rfl)
              simp only [Act.put, List.setIfInBounds_toArray, List.set_cons_zero, List.set_cons_succ]
              refine wpAnyZ_one (i := 17) (by kernel_rfl) rfl (fun K hK => ?_)
              go_simp
              refine hK.out _ _ (fun _ => hSa) ?_
              clear hK K
              refine wpAnyZ_one (i := 18) (by kernel_rfl) rfl (fun K hK => ?_)
              refine step_append_own rfl (.tmp 100) (.tmp 116) 25 rfl (w1.heap.size + 1) 5 iB _ 1 1 Tryz.underlying25 hiB hb0_ hb1_ hb2_ rfl (by decide) (.slice XA l.length cX) l.length (byteCells l) rfl HOWd.out ⟨wr.drew.heap.size, 0, none⟩ 1 1 [.int .u8 (y.toNat : Int)] rfl rfl (built_cells wr.drew _ _ _ rfl) (fun u hu => by rw [List.mem_singleton] at hu; subst hu; rfl) hM1 hM2 hM3 ?_; intro v6 w6 hown6 hg6; have HB6 : Hid (Below w1.heap.size w1 w6) := Lib.hid ((HBr.out.trans (hBa.mono HBr.out.size)).grown hg6 (Nat.le_of_succ_le hM3) (fun q hq => Nat.le_of_succ_le (HOWd.out.lt q hq).1)); have hT6 : Blk w6 w1.heap.size 28 (cmdC { cmd0 with verb := 3, conn := cn } (.slice XA l.length cX) nilS) := (HTr.out.below hBa HTr.out.lt).grown hg6 (fun e => by have := (HOWd.out.lt _ e.symm).1; omega); obtain ⟨X6, cap6, rfl⟩ := own_sl hown6; have s6 : w6.cell? ⟨w1.heap.size, 11, none⟩ = some (.slice XA l.length cX) := hT6.cell 11; have z6 := hT6.frozen 11; have HT7 : Hid (Blk (w6.setCell ⟨w1.heap.size, 11, none⟩ (.slice X6 (l.length + 1) cap6)) w1.heap.size 28 (cmdC { cmd0 with verb := 3, conn := cn } (.slice X6 (l.length + 1) cap6) nilS)) := hT6.set_ 11 _; have HO7 : Hid ((w6.setCell ⟨w1.heap.size, 11, none⟩ (.slice X6 (l.length + 1) cap6)).ownsRow (w1.heap.size + 1) 5 1 (.slice X6 (l.length + 1) cap6) (l ++ [y]).length (byteCells (l ++ [y]))) := Lib.hid (by rw [List.length_append, byteCells_snoc]; exact own_gb hown6 (gb_setC w6 w1.heap.size 11 _) (Nat.lt_succ_self _)); have HB7 : Hid (Below w1.heap.size w1 (w6.setCell ⟨w1.heap.size, 11, none⟩ (.slice X6 (l.length + 1) cap6))) := HB6.out.setCell (p := ⟨w1.heap.size, 11, none⟩) (Nat.le_refl _) _
              have hS6 : Below (w1.heap.size + 1) wr w6 := hSa.grown hg6 hM3 (fun q hq => (HOWd.out.lt q hq).1)
              refine hK.out _ _ (fun _ => hS6) ?_
              clear hK K hown6 hg6 hT6
              refine' wpAnyZ_take (i := 19) (v := _) rfl (by kernel_rfl) (by kernel_rfl) (by kernel_rfl) (by kernel_rfl) (fun _ _ _ h => h) hS6 (fun _ => rfl) ?hy16 ?rest16
              case hy16 => (intro W hSW; go_simp; try with_reducible rfl)
              simp only [Act.put, List.setIfInBounds_toArray, List.set_cons_zero, List.set_cons_succ]
              refine wpAnyZ_one (i := 20) (by kernel_rfl) rfl (fun K hK => ?_)
              go_simp
              refine hK.out _ _ (fun h => absurd rfl h) ?_
              clear hK K
              refine wpAnyZ_done (by kernel_rfl) ?_ _
              all_goals
                clear U1 U2 X1 X2 W1 V1 hM1 hM2 hM3 HOWd HOW HDG1 HDG2 hix hix2 kx k11 hBd hBa hSr hSd hSa hS6
                go_wp2_with fail
                go_roundw
                case rel => exact ⟨j + 2, l ++ [y], _, by omega, by go_num, HN, HL2', HO7, HT7, HB7⟩
                case measure => simp [intOf]; omega
            · have HFF : Hid (res = { cmd0 with verb := 3, conn := cn, raw := l }) := Lib.hid (by rw [HF.out, HRB.out, rdB_short (by rw [List.length_drop, HXL.out]; omega), List.append_nil])
              obtain ⟨XA, cX, rfl⟩ := own_sl HOW.out
              have hlt' : ¬ ((j : Int) + 1 < (xl : Int)) := by omega
              have HT7 : Hid (Blk wr w1.heap.size 28 (cmdC { cmd0 with verb := 3, conn := cn, raw := l } (.slice XA l.length cX) nilS)) := HTr.out
              have HTF : Hid (Blk _ w.heap.size 28 #[.int .i64 0, .int .i64 0, .int .u32 0, .int .i64 0, .string ⟨#[]⟩, .string ⟨#[]⟩, .string ⟨#[]⟩, .int .i64 0, .int .i64 0, .int .i64 0, .int .i64 0, .slice none 0 0, .int .i64 0, .slice none 0 0]) := HTC1.out.below HBr.out HSZ1.out
              go_wp2_with (first
                | ((with_reducible refine at_op ⟨_, .load 28 (.tmp 4), _, _, _, _⟩ ?_); refine wpList_load_list rfl 28 (.tmp 4) rfl ⟨w1.heap.size, 0, none⟩ rfl (cmdL { cmd0 with verb := 3, conn := cn, raw := l } (.slice XA l.length cX) nilS) (cmd_load HT7.out) _ Tryz.underlying28 rfl (by kernel_rfl) ?_)
                | ((with_reducible refine at_op ⟨_, .store 28 (.tmp 2) (.tmp 144), _, _, _, _⟩ ?_); refine wpList_store_blk rfl 28 (.tmp 2) (.tmp 144) rfl w.heap.size 0 rfl (cmdL { cmd0 with verb := 3, conn := cn, raw := l } (.slice XA l.length cX) nilS) rfl (cmdL_onel _ _ _ rfl rfl) 28 _ HTF.out (show 0 + 14 ≤ 14 from Nat.le_refl 14) (by kernel_rfl) ?_; intro w9 hT9 hg9 hs9; rw [put_cmd _ rfl] at hT9; have HT9 := Lib.hid hT9; have HG9 := Lib.hid hg9; clear hT9 hg9 hs9)
                | fail)
              refine bodyPost_ret (results_cell_row rfl _ _ w.heap.size 28 (cmdC { cmd0 with verb := 3, conn := cn, raw := l } (.slice XA l.length cX) nilS) (0, 0) _ rfl HT9.out Tryz.underlying28 rfl (by kernel_rfl)) rfl ?_
              rw [HFF.out]
              exact ⟨_, _, rfl, below_gb (HB1.out.trans (HBr.out.mono (Nat.le_of_lt HSZ1.out))) HG9.out (Nat.le_trans (Nat.le_of_lt HSZ1.out) HBr.out.size) (Nat.le_refl _), own_mono (HOW.out.kept HG9.out (Or.inr fun e => by have := (HOW.out.lt _ e).1; have := HSZ1.out; omega)) (by have := HSZ1.out; omega), own_nilV _ _ _ _⟩
        have n3 : (z == 3) = false := by rw [beq_eq_false_iff_ne]; exact h3
        by_cases h58 : z = 5 ∨ z = 8
        · have HF : Hid (res = { cmd0 with verb := z, conn := cn, picks := (x :: r).map (readN wrap64) }) := Lib.hid (HRT.out.trans (tail_5 wrap64 w32 _ x r h58))
          clear HRT q0
          have HG : Hid (∀ Q : Prop, (z = 5 → Q) → (z = 8 → Q) → Q) := Lib.hid fun Q a b => h58.elim a b
          go_upto_region 22 with fail
          go_cut [119] (fun s119 wx => s119 = .bool true ∧ wx = wc)
          case first =>
            rcases h58 with rfl | rfl
            all_goals
              go_wp2_with fail
              go_meet
              exact ⟨rfl, rfl⟩
          case rest =>
            obtain ⟨rfl, rfl⟩ := hcut
            clear h58 HG c0
            go_wp2_with fail
            have HLX : Hid ((x :: r).length = m3 + 1) := HM2
            obtain ⟨L, hL⟩ : ∃ l, x :: r = l := ⟨_, rfl⟩
            rw [hL] at HLX HQX HL2 HF
            clear hL HTX2 HM2 HM3 hxl hnn n2 n3
            go_loopw [7] (fun i wr => ∃ (j : Nat) (v : Value), j ≤ m3 + 1 ∧ i = .int .i64 (j : Int) ∧ Hid (wr.ownsRow (w1.heap.size + 1) 3 1 v j (intC ((L.take j).map (readN wrap64)))) ∧ Hid (Blk wr w1.heap.size 28 (cmdC { cmd0 with verb := z, conn := cn } nilS v)) ∧ Hid (Below w1.heap.size w1 wr)) (fun i _ => m3 + 1 - (intOf i).toNat)
            case atStart => exact ⟨0, nilS, Nat.zero_le _, rfl, own_nilV _ _ _ _, HTc, HBc⟩
            case round =>
              obtain ⟨j, v, hj, rfl, HOW, HTr, HBr⟩ := hrel
              by_cases hlt : j < m3 + 1
              · have hlA : j < L.length := by rw [HLX.out]; exact hlt
                have hyl : L[j].length ≤ 1048576 := HL2.out _ (List.getElem_mem hlA)
                have kx0 : ∀ W, Below wr.heap.size wr W → W.cell? ⟨b, off + j, none⟩ = some (.string (S L[j])) := fun W hW => HQX.out W (HBr.out.trans (hW.mono HBr.out.size)) j _ (List.getElem?_eq_getElem hlA)
                have HSN : Hid (intC ((L.take (j + 1)).map (readN wrap64)) = intC ((L.take j).map (readN wrap64)) ++ [.int .i64 (readN wrap64 L[j])]) := Lib.hid (by rw [List.take_succ_eq_append_getElem hlA, List.map_append, intC, List.map_append]; rfl)
                obtain ⟨y, hy⟩ : ∃ y, L[j] = y := ⟨_, rfl⟩
                rw [hy] at hyl HSN
                have kx : ∀ W, Below wr.heap.size wr W → W.cell? ⟨b, off + j, none⟩ = some (.string (S y)) := fun W hW => by rw [← hy]; exact kx0 W hW
                clear hy kx0
                have HNM : Hid (∀ W, Calls Tryz.prog 70 #[.string (S y)] W fun e w' => e = .returned (.int .i64 (readN wrap64 y)) ∧ w' = W) := Lib.hid fun W => rnum_any y hyl W
                obtain ⟨n, hn⟩ : ∃ n, readN wrap64 y = n := ⟨_, rfl⟩
                rw [hn] at HNM HSN
                clear hn
                obtain ⟨XA, cX, rfl⟩ := own_sl HOW.out
                have hjj : (j : Int) < (m3 : Int) + 1 := by omega
                go_upto_region 26 with fail
                obtain ⟨xs, hxs⟩ : ∃ l, intC ((L.take j).map (readN wrap64)) = l := ⟨_, rfl⟩
                rw [hxs] at HOW HSN
                clear hxs
                have hM1 : j + 1 ≤ maxLen := le_maxLen (by omega)
                have hM2 : (j + 1) * 8 ≤ 140737488355328 := by omega
                have HOWd : Hid ((wr.drew.alloc (.cells #[.int .i64 n] 3)).ownsRow (w1.heap.size + 1) 3 1 (.slice XA j cX) j xs) := Lib.hid ((own_keep (w := wr) HOW.out (Below.refl _ _).drew).alloc _)
                have hSW : w1.heap.size + 1 ≤ wr.heap.size := HTr.out.lt
                have hM3 : w1.heap.size + 1 ≤ (wr.drew.alloc (.cells #[.int .i64 n] 3)).heap.size := le_alloc _ hSW
                have hBd : Below wr.heap.size wr wr.drew := (Below.refl wr.heap.size wr).drew
                have hBa : Below wr.heap.size wr (wr.drew.alloc (.cells #[.int .i64 n] 3)) := hBd.alloc hBd.size _
                have k13 : ∀ W, Below wr.heap.size wr W → W.cell? ⟨w1.heap.size, 13, none⟩ = some (.slice XA j cX) := fun W hW => (HTr.out.below hW HTr.out.lt).cell 13
                have kx0 := kx wr (Below.refl _ _)
                have k13a := k13 wr (Below.refl _ _)
                have k13b := k13 (wr.alloc (.cells #[.int .i64 n] 3)) ((Below.refl _ _).alloc (Nat.le_refl _) _)
                first
                  | go_region_law (first
                        | (go_simp; go_at_call 70; (with_reducible refine (HNM.out _).mono ?_); rintro e1 w3 ⟨rfl, rfl⟩)
                        | (refine step_append_own rfl (.tmp 135) (.tmp 141) 26 rfl (w1.heap.size + 1) 3 iI _ 1 8 Tryz.underlying26 hiI hi0_ hi1_ hi2_ rfl (by decide) (.slice XA j cX) j xs rfl HOWd.out ⟨wr.drew.heap.size, 0, none⟩ 1 1 [.int .i64 n] rfl rfl (built_cells wr.drew _ _ _ rfl) (fun u hu => by rw [List.mem_singleton] at hu; subst hu; rfl) hM1 hM2 hM3 ?_; intro v6 w6 hown6 hg6; have HB6 : Hid (Below w1.heap.size w1 w6) := Lib.hid ((HBr.out.trans (hBa.mono HBr.out.size)).grown hg6 (Nat.le_of_succ_le hM3) (fun q hq => Nat.le_of_succ_le (HOWd.out.lt q hq).1)); have hT6 : Blk w6 w1.heap.size 28 (cmdC { cmd0 with verb := z, conn := cn } nilS (.slice XA j cX)) := (HTr.out.below hBa HTr.out.lt).grown hg6 (fun e => by have := (HOWd.out.lt _ e.symm).1; omega); obtain ⟨X6, cap6, rfl⟩ := own_sl hown6; have s6 : w6.cell? ⟨w1.heap.size, 13, none⟩ = some (.slice XA j cX) := hT6.cell 13; have z6 := hT6.frozen 13; have HT7 : Hid (Blk (w6.setCell ⟨w1.heap.size, 13, none⟩ (.slice X6 (j + 1) cap6)) w1.heap.size 28 (cmdC { cmd0 with verb := z, conn := cn } nilS (.slice X6 (j + 1) cap6))) := hT6.set_ 13 _; have HO7 : Hid ((w6.setCell ⟨w1.heap.size, 13, none⟩ (.slice X6 (j + 1) cap6)).ownsRow (w1.heap.size + 1) 3 1 (.slice X6 (j + 1) cap6) (j + 1) (intC ((L.take (j + 1)).map (readN wrap64)))) := Lib.hid (by rw [HSN.out]; exact own_gb hown6 (gb_setC w6 w1.heap.size 13 _) (Nat.lt_succ_self _)); have HB7 : Hid (Below w1.heap.size w1 (w6.setCell ⟨w1.heap.size, 13, none⟩ (.slice X6 (j + 1) cap6))) := HB6.out.setCell (p := ⟨w1.heap.size, 13, none⟩) (Nat.le_refl _) _; clear hown6 hg6 hT6)
                        | fail)
                  | fail
                all_goals
                  clear hM1 hM2 hM3 HOWd HOW HNM kx k13 hBd hBa kx0 k13a k13b
                  go_wp2_with fail
                  go_roundw
                  case rel => exact ⟨j + 1, _, by omega, by go_num, HO7, HT7, HB7⟩
                  case measure => simp [intOf]; omega
              · obtain rfl : j = m3 + 1 := by omega
                have HPK : Hid (L.map (readN wrap64) = (L.take (m3 + 1)).map (readN wrap64)) := Lib.hid (by rw [← HLX.out, List.take_length])
                have HFF : Hid (res = { cmd0 with verb := z, conn := cn, picks := (L.take (m3 + 1)).map (readN wrap64) }) := Lib.hid (by rw [HF.out, HPK.out])
                obtain ⟨pk, hpk⟩ : ∃ l, (L.take (m3 + 1)).map (readN wrap64) = l := ⟨_, rfl⟩
                have hpl : pk.length = m3 + 1 := by rw [← hpk, ← HPK.out, List.length_map]; exact HLX.out
                rw [hpk] at HOW HFF
                rw [← hpl] at HOW
                obtain ⟨XA, cX, rfl⟩ := own_sl HOW.out
                have hlt' : ¬ ((m3 : Int) + 1 < (m3 : Int) + 1) := by omega
                have HT7 : Hid (Blk wr w1.heap.size 28 (cmdC { cmd0 with verb := z, conn := cn, picks := pk } nilS (.slice XA pk.length cX))) := HTr.out
                clear hpk
                have HTF : Hid (Blk _ w.heap.size 28 #[.int .i64 0, .int .i64 0, .int .u32 0, .int .i64 0, .string ⟨#[]⟩, .string ⟨#[]⟩, .string ⟨#[]⟩, .int .i64 0, .int .i64 0, .int .i64 0, .int .i64 0, .slice none 0 0, .int .i64 0, .slice none 0 0]) := HTC1.out.below HBr.out HSZ1.out
                go_wp2_with (first
                  | ((with_reducible refine at_op ⟨_, .load 28 (.tmp 4), _, _, _, _⟩ ?_); refine wpList_load_list rfl 28 (.tmp 4) rfl ⟨w1.heap.size, 0, none⟩ rfl (cmdL { cmd0 with verb := z, conn := cn, picks := pk } nilS (.slice XA pk.length cX)) (cmd_load HT7.out) _ Tryz.underlying28 rfl (by kernel_rfl) ?_)
                  | ((with_reducible refine at_op ⟨_, .store 28 (.tmp 2) (.tmp 144), _, _, _, _⟩ ?_); refine wpList_store_blk rfl 28 (.tmp 2) (.tmp 144) rfl w.heap.size 0 rfl (cmdL { cmd0 with verb := z, conn := cn, picks := pk } nilS (.slice XA pk.length cX)) rfl (cmdL_onel _ _ _ rfl rfl) 28 _ HTF.out (show 0 + 14 ≤ 14 from Nat.le_refl 14) (by kernel_rfl) ?_; intro w9 hT9 hg9 hs9; rw [put_cmd _ rfl] at hT9; have HT9 := Lib.hid hT9; have HG9 := Lib.hid hg9; clear hT9 hg9 hs9)
                  | fail)
                refine bodyPost_ret (results_cell_row rfl _ _ w.heap.size 28 (cmdC { cmd0 with verb := z, conn := cn, picks := pk } nilS (.slice XA pk.length cX)) (0, 0) _ rfl HT9.out Tryz.underlying28 rfl (by kernel_rfl)) rfl ?_
                rw [HFF.out]
                exact ⟨_, _, rfl, below_gb (HB1.out.trans (HBr.out.mono (Nat.le_of_lt HSZ1.out))) HG9.out (Nat.le_trans (Nat.le_of_lt HSZ1.out) HBr.out.size) (Nat.le_refl _), own_nilV _ _ _ _, own_mono (HOW.out.kept HG9.out (Or.inr fun e => by have := (HOW.out.lt _ e).1; have := HSZ1.out; omega)) (by have := HSZ1.out; omega)⟩
        have n5 : (z == 5) = false := by rw [beq_eq_false_iff_ne]; omega
        have n8 : (z == 8) = false := by rw [beq_eq_false_iff_ne]; omega
        have HF : Hid (res = { cmd0 with verb := z, conn := cn, n := readN wrap64 x }) := Lib.hid (HRT.out.trans (tail_n wrap64 w32 _ x r ⟨h2, h3, fun e => h58 (Or.inl e), fun e => h58 (Or.inr e)⟩))
        clear HRT
        go_wp2_with fail
        refine (rnum_any x hxl wc).mono ?_
        rintro e w3 ⟨rfl, rfl⟩
        have c12 : w3.cell? ⟨w1.heap.size, 12, none⟩ = some (.int .i64 0) := HTc.out.cell 12
        have z12 := HTc.out.frozen 12
        have HT4 : Hid (Blk (w3.setCell ⟨w1.heap.size, 12, none⟩ (.int .i64 (readN wrap64 x))) w1.heap.size 28 (cmdC { cmd0 with verb := z, conn := cn, n := readN wrap64 x } nilS nilS)) := HTc.out.set_ 12 _
        have HB4 : Hid (Below w1.heap.size w1 (w3.setCell ⟨w1.heap.size, 12, none⟩ (.int .i64 (readN wrap64 x)))) := HBc.out.setCell (p := ⟨w1.heap.size, 12, none⟩) (Nat.le_refl _) _
        have HTF : Hid (Blk _ w.heap.size 28 #[.int .i64 0, .int .i64 0, .int .u32 0, .int .i64 0, .string ⟨#[]⟩, .string ⟨#[]⟩, .string ⟨#[]⟩, .int .i64 0, .int .i64 0, .int .i64 0, .int .i64 0, .slice none 0 0, .int .i64 0, .slice none 0 0]) := HTC1.out.below HB4.out HSZ1.out
        go_wp2_with (first
          | ((with_reducible refine at_op ⟨_, .load 28 (.tmp 4), _, _, _, _⟩ ?_); refine wpList_load_list rfl 28 (.tmp 4) rfl ⟨w1.heap.size, 0, none⟩ rfl (cmdL { cmd0 with verb := z, conn := cn, n := readN wrap64 x } nilS nilS) (cmd_load HT4.out) _ Tryz.underlying28 rfl (by kernel_rfl) ?_)
          | ((with_reducible refine at_op ⟨_, .store 28 (.tmp 2) (.tmp 144), _, _, _, _⟩ ?_); refine wpList_store_blk rfl 28 (.tmp 2) (.tmp 144) rfl w.heap.size 0 rfl (cmdL { cmd0 with verb := z, conn := cn, n := readN wrap64 x } nilS nilS) rfl (cmdL_onel _ _ _ rfl rfl) 28 _ HTF.out (show 0 + 14 ≤ 14 from Nat.le_refl 14) (by kernel_rfl) ?_; intro w9 hT9 hg9 hs9; rw [put_cmd _ rfl] at hT9; have HT9 := Lib.hid hT9; have HG9 := Lib.hid hg9; clear hT9 hg9 hs9)
          | fail)
        refine bodyPost_ret (results_cell_row rfl _ _ w.heap.size 28 (cmdC { cmd0 with verb := z, conn := cn, n := readN wrap64 x } nilS nilS) (0, 0) _ rfl HT9.out Tryz.underlying28 rfl (by kernel_rfl)) rfl ?_
        rw [HF.out]
        exact ⟨_, _, rfl, below_gb (HB1.out.trans (HB4.out.mono (Nat.le_of_lt HSZ1.out))) HG9.out (Nat.le_trans (Nat.le_of_lt HSZ1.out) HB4.out.size) (Nat.le_refl _), own_nilV _ _ _ _, own_nilV _ _ _ _⟩
end Go.Proofs.YtepalbldleegiaaGreatDoor.sh

namespace Go.Proofs.YtepalbldleegiaaGreatDoor.sh
open Go.RowKit
open Go.Lib (itoa decDigits byteCells atoiAll)

theorem wr64 : Wr wrap64 := fun x h0 h1 => by unfold wrap64; omega
theorem wrs64 : Wrs wrap64 := fun x => by unfold J64 wrap64; omega
theorem w32_ok (x : Int) : 0 ≤ w32 x ∧ w32 x ≤ 4294967295 := by unfold w32; rw [IntKind.wrap_u32]; omega
theorem w32_id (x : Int) (h0 : 0 ≤ x) (h1 : x ≤ 4294967295) : w32 x = x := by unfold w32; rw [IntKind.wrap_u32]; omega
theorem rdT_len : ∀ (n : Nat) (s : Bs), s.length ≤ n → (rdT s).length ≤ s.length
  | 0, s, h => by
    obtain rfl : s = [] := List.eq_nil_of_length_eq_zero (by omega)
    simp [rdT]
  | n + 1, s, h => by
    match s, h with
    | [], _ => simp [rdT]
    | [_], _ => simp [rdT]
    | [c, d], h =>
      rw [rdT]
      split
      · simp
      · have := rdT_len n [d] (by simp at h ⊢; omega)
        simp at this ⊢; omega
    | [c, d, e], h =>
      rw [rdT]
      split
      · have := rdT_len n [e] (by simp at h ⊢; omega)
        simp at this ⊢; omega
      · have := rdT_len n [d, e] (by simp at h ⊢; omega)
        simp at this ⊢; omega
    | c :: d :: e :: f :: s, h =>
      rw [rdT]
      split
      · have := rdT_len n s (by simp at h ⊢; omega)
        simp at this ⊢; omega
      · split
        · have := rdT_len n (e :: f :: s) (by simp at h ⊢; omega)
          simp at this ⊢; omega
        · have := rdT_len n (d :: e :: f :: s) (by simp at h ⊢; omega)
          simp at this ⊢; omega
theorem readTR_len (s : Bs) : (readTR s).length ≤ s.length := by
  unfold readTR
  split
  · exact Nat.le_refl _
  · have := rdT_len _ (s.drop 1) (Nat.le_refl _)
    rw [List.length_drop] at this
    omega
theorem rdB_len : ∀ s : Bs, (rdB s).length ≤ s.length
  | [] => by simp [rdB]
  | [_] => by simp [rdB]
  | h :: l :: s => by
    have := rdB_len s
    simp only [rdB, List.length_cons]
    omega
theorem lastW_bd (p : Bs) (lo hi : Int) : ∀ (ws : List Bs) (k z : Int), lo ≤ z → z ≤ hi → lo ≤ k → k + ws.length ≤ hi + 1 → lo ≤ lastW p ws k z ∧ lastW p ws k z ≤ hi
  | [], k, z, h0, h1, _, _ => ⟨h0, h1⟩
  | x :: l, k, z, h0, h1, h2, h3 => by
    rw [List.length_cons] at h3
    rw [lastW]
    refine lastW_bd p lo hi l (k + 1) _ ?_ ?_ (by omega) (by omega)
    · split
      · exact h2
      · exact h0
    · split
      · omega
      · exact h1
theorem setF_lens (w : Int → Int) {r : Req} (p : Bs) (f : Fd) (hr : lensR r) (hp : p.length ≤ 4096) : lensR (setF w r p f) := by
  obtain ⟨h0, h1, h2, h3⟩ := hr
  have := readTR_len p
  cases f
  · exact ⟨h0, by show (readTR p).length ≤ 4096; omega, h2, h3⟩
  · exact ⟨h0, h1, by show (readTR p).length ≤ 4096; omega, h3⟩
  · exact ⟨h0, h1, h2, by show (readTR p).length ≤ 4096; omega⟩
  · exact ⟨h0, h1, h2, h3⟩
  · exact ⟨h0, h1, h2, h3⟩
  · exact ⟨h0, h1, h2, h3⟩
  · exact ⟨h0, h1, h2, h3⟩
theorem setFs_lens (w : Int → Int) : ∀ (fs : List Fd) (ps : List Bs) (r : Req), lensR r → (∀ p ∈ ps, p.length ≤ 4096) → lensR (setFs w r fs ps)
  | [], _, r, h, _ => by simpa [setFs] using h
  | f :: fs, [], r, h, _ => by simpa [setFs] using h
  | f :: fs, p :: ps, r, h, hp => setFs_lens w fs ps _ (setF_lens w p f h (hp p List.mem_cons_self)) fun x hx => hp x (List.mem_cons_of_mem _ hx)
theorem readReq_lens (w : Int → Int) (ps : List Bs) (r : Req) (h : lensR r) (hp : ∀ p ∈ ps, p.length ≤ 4096) : lensR (readReq w ps r) := by
  cases ps with
  | nil => exact h
  | cons p rest =>
    show lensR (setFs w { r with op := lastW p opWords 1 r.op } (fieldsOf (lastW p opWords 1 r.op)) rest)
    have hb := lastW_bd p 0 15 opWords 1 r.op h.1.1 h.1.2 (by omega) (by show (1 : Int) + 15 ≤ 16; omega)
    exact setFs_lens w _ _ _ ⟨hb, h.2⟩ fun x hx => hp x (List.mem_cons_of_mem _ hx)
def lensG (c : Cmd) : Prop := (-1 ≤ c.verb ∧ c.verb ≤ 10) ∧ lensR c.req ∧ c.raw.length ≤ 4096 ∧ c.picks.length ≤ 4097
theorem readTail_lens (w w3 : Int → Int) (c : Cmd) (l : List Bs) (h : lensG c) (hp : ∀ p ∈ l, p.length ≤ 4096) (hn : l.length ≤ 4097) : lensG (readTail w w3 c l) := by
  obtain ⟨h0, h1, h2, h3⟩ := h
  cases l with
  | nil => exact ⟨h0, h1, h2, h3⟩
  | cons p ps =>
    have hps : ∀ x ∈ ps, x.length ≤ 4096 := fun x hx => hp x (List.mem_cons_of_mem _ hx)
    have hp1 := hp p List.mem_cons_self
    simp only [readTail]
    split
    · exact ⟨h0, readReq_lens w ps _ h1 hps, h2, h3⟩
    · split
      · exact ⟨h0, h1, by have := rdB_len p; show (rdB p).length ≤ 4096; omega, h3⟩
      · split
        · exact ⟨h0, h1, h2, by show ((p :: ps).map (readN w)).length ≤ 4097; rw [List.length_map]; exact hn⟩
        · exact ⟨h0, h1, h2, h3⟩
theorem read_lens (w w3 : Int → Int) (s : Bs) (hs : s.length ≤ 4096) : lensG (readR w w3 s) := by
  obtain ⟨ps, hps⟩ : ∃ x, cutL [] false false s = x := ⟨_, rfl⟩
  have HL := cutL_lens s [] false false
  have HN := cutL_ne s [] false false
  rw [hps] at HL HN
  obtain ⟨p, rest, rfl⟩ := List.exists_cons_of_ne_nil (List.length_pos_iff.1 HN)
  rw [readR_cons w w3 s p rest hps _ rfl]
  have hv := lastW_bd p (-1) 10 verbWords 0 (-1) (by omega) (by omega) (by omega) (by show (0 : Int) + 11 ≤ 11; omega)
  have hp : ∀ x ∈ rest, x.length ≤ 4096 := fun x hx => by
    have := HL.2 x (List.mem_cons_of_mem _ hx)
    simp only [List.length_nil] at this
    omega
  have hn : rest.length ≤ 4097 := by
    have := HL.1
    simp only [List.length_cons] at this
    omega
  cases rest with
  | nil => exact ⟨hv, lens0, Nat.zero_le _, Nat.zero_le _⟩
  | cons q qs =>
    cases hc : hasConn (lastW p verbWords 0 (-1)) with
    | true =>
      rw [after_yes w w3 hc]
      exact readTail_lens w w3 _ qs ⟨hv, lens0, Nat.zero_le _, Nat.zero_le _⟩ (fun x hx => hp x (List.mem_cons_of_mem _ hx)) (by simp only [List.length_cons] at hn; omega)
    | false =>
      rw [after_no w w3 hc]
      exact readTail_lens w w3 _ (q :: qs) ⟨hv, lens0, Nat.zero_le _, Nat.zero_le _⟩ hp hn
theorem cmdI_read (s : Bs) (hs : s.length ≤ 4096) : cmdI (readR wrap64 w32 s) := by
  obtain ⟨hid, hi⟩ := readR_ints wrap64 w32 wrs64 w32_ok s
  obtain ⟨hv, ⟨ho, h1, h2, h3⟩, hr, hp⟩ := read_lens wrap64 w32 s hs
  generalize readR wrap64 w32 s = c at *
  refine ⟨⟨by omega, by omega⟩, hi c.conn (by simp), hi c.n (by simp), ⟨by omega, by omega⟩, ⟨hi _ (by simp), hi _ (by simp), hi _ (by simp), hi _ (by simp)⟩, ⟨hid.1, by omega⟩, fun x hx => hi x (List.mem_append_right _ hx), by omega, by omega, by omega, by omega, by omega⟩
theorem parseR_eq (l : Bs) : parseR wrap64 w32 l = parseL l := (parse_same wrap64 w32 wr64 wrs64 w32_id w32_ok l).symm
end Go.Proofs.YtepalbldleegiaaGreatDoor.sh

namespace Go.Proofs.YtepalbldleegiaaGreatDoor.sh
open Go.RowKit
open Go.Lib (itoa decDigits byteCells atoiAll)

theorem own_apart {w : World} {B B' : Nat} {e e' : TypeId} {s s' : Nat} {v v' : Value} {n n' : Nat} {xs xs' : List Value} (h : w.ownsRow B e s v n xs) (h' : w.ownsRow B' e' s' v' n' xs') (hne : e ≠ e') : v.ownBlock = none ∨ v.ownBlock ≠ v'.ownBlock := by
  rcases h.2 with ⟨rfl, -⟩ | ⟨g, cap, cur, rfl, -, hg, -⟩
  · exact Or.inl rfl
  · refine Or.inr ?_
    rcases h'.2 with ⟨rfl, -⟩ | ⟨g', cap', cur', rfl, -, hg', -⟩
    · exact fun x => by cases x
    · intro x
      have x' : g = g' := Option.some.inj x
      subst x'
      rw [hg] at hg'
      injection hg' with hg'
      injection hg' with h1 h2
      exact hne h2
theorem own_at {w : World} {B : Nat} {e : TypeId} {X : Option Addr} {n cap : Nat} {xs : List Value} (h : w.ownsRow B e 1 (.slice X n cap) n xs) (hn : 0 < n) : ∃ g, X = some ⟨g, 0, none⟩ ∧ g < w.heap.size := by
  obtain ⟨g, cap', e', -, hg, -⟩ := own_read h hn
  injection e' with e1 e2 e3
  exact ⟨g, e1, hg⟩
theorem own_len {w : World} {B : Nat} {e : TypeId} {v : Value} {n : Nat} {xs : List Value} (h : w.ownsRow B e 1 v n xs) : xs.length = n := by rw [h.1, Nat.mul_one]

set_option maxRecDepth 100000 in
set_option maxHeartbeats 8000000 in
theorem spoilt_any (c : Cmd) (X Y : Option Addr) (rl pl cX cY B : Nat) (xs0 ys0 : List Value) (w : World) (hB : B ≤ w.heap.size) (hR : w.ownsRow B 5 1 (.slice X rl cX) rl xs0) (hP : w.ownsRow B 3 1 (.slice Y pl cY) pl ys0) (hl : rl ≤ 1048576) (hl' : pl ≤ 1048576) :
    Calls Tryz.prog 13 #[.agg (cmdC c (.slice X rl cX) (.slice Y pl cY))] w fun e w' => e = .returned (.int .i64 ((rl : Int) + (pl : Int) + 128)) ∧ Below B w w' := by
  obtain ⟨iB, hiB, hb0_, hb1_, hb2_⟩ := info_parts infoByte
  obtain ⟨iI, hiI, hi0_, hi1_, hi2_⟩ := info_parts infoInt8
  have hT0 := Blk.new w 28 (cmdC c (.slice X rl cX) (.slice Y pl cY))
  have hB0 : Below B w (w.alloc (.cells (cmdC c (.slice X rl cX) (.slice Y pl cY)) 28)) := ((Below.refl _ _).alloc (Nat.le_refl _) _).mono hB
  have hR0 := hR.alloc (.cells (cmdC c (.slice X rl cX) (.slice Y pl cY)) 28)
  have hP0 := hP.alloc (.cells (cmdC c (.slice X rl cX) (.slice Y pl cY)) 28)
  have HXA : Hid (0 < rl → ∃ g, X = some ⟨g, 0, none⟩ ∧ g < w.heap.size) := Lib.hid fun h => own_at hR h
  have HYA : Hid (0 < pl → ∃ g, Y = some ⟨g, 0, none⟩ ∧ g < w.heap.size) := Lib.hid fun h => own_at hP h
  generalize hcs : cmdC c (.slice X rl cX) (.slice Y pl cY) = cs at hT0 hB0 hR0 hP0 ⊢
  have h11 : cs[11]? = some (.slice X rl cX) := by rw [← hcs]; rfl
  have h13 : cs[13]? = some (.slice Y pl cY) := by rw [← hcs]; rfl
  clear hcs hR hP
  go_enter Tryz.func13, Tryz.ntmps13
  go_upto_region 1 with fail
  generalize hw0 : w.alloc _ = w0 at hT0 hB0 hR0 hP0 ⊢
  clear hw0
  have HT0 := Lib.hid hT0
  have HB0 := Lib.hid hB0
  have HR0 := Lib.hid hR0
  have HP0 := Lib.hid hP0
  have C11 : Hid (∀ wr, Blk wr w.heap.size 28 cs → wr.cell? ⟨w.heap.size, 11, none⟩ = some (.slice X rl cX)) := Lib.hid fun wr h => (h.cell 11).trans h11
  have C13 : Hid (∀ wr, Blk wr w.heap.size 28 cs → wr.cell? ⟨w.heap.size, 13, none⟩ = some (.slice Y pl cY)) := Lib.hid fun wr h => (h.cell 13).trans h13
  clear hT0 hB0 hR0 hP0 h11 h13
  go_wp2_with fail
  go_loopw [3] (fun i wr => ∃ (j : Nat), j ≤ rl ∧ i = .int .i64 (j : Int) ∧ Hid (∃ xs, wr.ownsRow B 5 1 (.slice X rl cX) rl xs) ∧ Hid (wr.ownsRow B 3 1 (.slice Y pl cY) pl ys0) ∧ Hid (Blk wr w.heap.size 28 cs) ∧ Hid (Below B w wr)) (fun i _ => rl - (intOf i).toNat)
  case atStart => exact ⟨0, Nat.zero_le _, rfl, Lib.hid ⟨_, HR0.out⟩, HP0, HT0, HB0⟩
  case round =>
    clear HR0 HP0 HT0 HB0
    obtain ⟨j, hj, rfl, HR, HP, HT, HB⟩ := hrel
    by_cases hlt : j < rl
    · obtain ⟨g, rfl, hg⟩ := HXA.out (by omega)
      obtain ⟨xs, hxs⟩ := HR.out
      have hjx : j < xs.length := by rw [own_len hxs]; exact hlt
      have u11 := C11.out wr HT.out
      have c1 : wr.cell? ⟨g, j, none⟩ = some xs[j] := (hxs.cellAt j (by omega)).trans (List.getElem?_eq_getElem hjx)
      have z1 := hxs.frozenAt j
      obtain ⟨hs1, hs2⟩ := hxs.stored j (.int .u8 165)
      have HRn : Hid (∃ xs, (wr.setCell ⟨g, j, none⟩ (.int .u8 165)).ownsRow B 5 1 (.slice (some ⟨g, 0, none⟩) rl cX) rl xs) := Lib.hid ⟨_, hs1⟩
      have HPn : Hid ((wr.setCell ⟨g, j, none⟩ (.int .u8 165)).ownsRow B 3 1 (.slice Y pl cY) pl ys0) := HP.out.kept hs2 (own_apart HP.out hxs (by decide))
      have HTn : Hid (Blk (wr.setCell ⟨g, j, none⟩ (.int .u8 165)) w.heap.size 28 cs) := HT.out.far (by show w.heap.size ≠ g; omega) _
      have HBn : Hid (Below B w (wr.setCell ⟨g, j, none⟩ (.int .u8 165))) := HB.out.setCell (p := ⟨g, j, none⟩) (hxs.lt g rfl).1 _
      obtain ⟨v0, hv0⟩ : ∃ v, xs[j] = v := ⟨_, rfl⟩
      rw [hv0] at c1
      clear hs1 hs2 hjx HR HP HT HB hxs hv0
      go_wp2_with fail
      go_roundw
      case rel => exact ⟨j + 1, by omega, by go_num, HRn, HPn, HTn, HBn⟩
      case measure => simp [intOf]; omega
    · have u11 := C11.out wr HT.out
      go_wp2_with fail
      clear u11
      obtain ⟨w3, hw3⟩ : ∃ x : World, x = wr := ⟨_, rfl⟩
      rw [← hw3] at HR HP HT HB ⊢
      clear hw3
      go_loopw [4] (fun i wr => ∃ (j : Nat), j ≤ pl ∧ i = .int .i64 (j : Int) ∧ Hid (∃ xs, wr.ownsRow B 5 1 (.slice X rl cX) rl xs) ∧ Hid (∃ xs, wr.ownsRow B 3 1 (.slice Y pl cY) pl xs) ∧ Hid (Blk wr w.heap.size 28 cs) ∧ Hid (Below B w wr)) (fun i _ => pl - (intOf i).toNat)
      case atStart => exact ⟨0, Nat.zero_le _, rfl, HR, Lib.hid ⟨_, HP.out⟩, HT, HB⟩
      case round =>
        clear HR HP HT HB
        obtain ⟨j, hj, rfl, HR, HP, HT, HB⟩ := hrel
        have u13 := C13.out wr HT.out
        by_cases hlt : j < pl
        · obtain ⟨g, rfl, hg⟩ := HYA.out (by omega)
          obtain ⟨ys, hys⟩ := HP.out
          have hjx : j < ys.length := by rw [own_len hys]; exact hlt
          have c1 : wr.cell? ⟨g, j, none⟩ = some ys[j] := (hys.cellAt j (by omega)).trans (List.getElem?_eq_getElem hjx)
          have z1 := hys.frozenAt j
          obtain ⟨hs1, hs2⟩ := hys.stored j (.int .i64 (-165))
          have HPn : Hid (∃ xs, (wr.setCell ⟨g, j, none⟩ (.int .i64 (-165))).ownsRow B 3 1 (.slice (some ⟨g, 0, none⟩) pl cY) pl xs) := Lib.hid ⟨_, hs1⟩
          have HRn : Hid (∃ xs, (wr.setCell ⟨g, j, none⟩ (.int .i64 (-165))).ownsRow B 5 1 (.slice X rl cX) rl xs) := Lib.hid (by
            obtain ⟨xs, hxs⟩ := HR.out
            exact ⟨xs, hxs.kept hs2 (own_apart hxs hys (by decide))⟩)
          have HTn : Hid (Blk (wr.setCell ⟨g, j, none⟩ (.int .i64 (-165))) w.heap.size 28 cs) := HT.out.far (by show w.heap.size ≠ g; omega) _
          have HBn : Hid (Below B w (wr.setCell ⟨g, j, none⟩ (.int .i64 (-165)))) := HB.out.setCell (p := ⟨g, j, none⟩) (hys.lt g rfl).1 _
          obtain ⟨v0, hv0⟩ : ∃ v, ys[j] = v := ⟨_, rfl⟩
          rw [hv0] at c1
          clear hs1 hs2 hjx HR HP HT HB hys hv0
          go_wp2_with fail
          go_roundw
          case rel => exact ⟨j + 1, by omega, by go_num, HRn, HPn, HTn, HBn⟩
          case measure => simp [intOf]; omega
        · have u11 := C11.out wr HT.out
          go_wp2_with fail
          clear u11 u13
          obtain ⟨w4, hw4⟩ : ∃ x : World, x = wr := ⟨_, rfl⟩
          rw [← hw4] at HR HP HT HB ⊢
          clear hw4
          go_loopw [5, 6, 7] (fun vb vp i wr => ∃ (j : Nat), j ≤ 64 ∧ i = .int .i64 (j : Int) ∧ Hid (∃ xs, wr.ownsRow B 5 1 vb (rl + j) xs) ∧ Hid (∃ xs, wr.ownsRow B 3 1 vp (pl + j) xs) ∧ Hid (Below B w wr)) (fun _ _ i _ => 64 - (intOf i).toNat)
          case atStart => exact ⟨0, Nat.zero_le _, rfl, HR, HP, HB⟩
          case round =>
            clear HR HP HT HB
            obtain ⟨j, hj, rfl, HR, HP, HB⟩ := hrel
            by_cases hlt : j < 64
            · obtain ⟨xs, hxs⟩ := HR.out
              obtain ⟨ys, hys⟩ := HP.out
              have HBs : B ≤ wr.heap.size := Nat.le_trans hB HB.out.size
              have HOR : Hid ((wr.alloc (.cells #[.int .u8 90] 5)).ownsRow B 5 1 u5 (rl + j) xs) := hxs.alloc _
              have HOP : Hid ((wr.alloc (.cells #[.int .u8 90] 5)).ownsRow B 3 1 u6 (pl + j) ys) := hys.alloc _
              clear hxs hys HR HP
              go_wp2_with (first
                | ((with_reducible refine at_op ⟨_, .call { callee := .builtin .append, args := #[.tmp 38, .tmp 39], argTypes := #[25, 25] }, _, _, _, _⟩ ?_); refine wpList_append_src rfl (.tmp 38) (.tmp 39) 25 rfl B 5 iB _ 1 Tryz.underlying25 hiB hb0_ hb1_ hb2_ rfl _ (rl + j) xs rfl HOR.out (some ⟨wr.heap.size, 0, none⟩) 1 1 [.int .u8 90] rfl rfl (Or.inr ⟨_, rfl, built_cells wr _ _ _ rfl⟩) (fun u hu => by rw [List.mem_singleton] at hu; subst hu; rfl) (le_maxLen (by omega)) (by omega) (le_alloc _ HBs) ?_; intro v6 w6 hown6 hg6; have HB6 : Hid (Below B w w6) := (HB.out.alloc HBs _).grown hg6 (le_alloc _ HBs) (fun q hq => (HOR.out.lt q hq).1); have HR6 := Lib.hid hown6; have HP6 : Hid ((w6.alloc (.cells #[.int .i64 (-90)] 3)).ownsRow B 3 1 u6 (pl + j) ys) := Lib.hid ((HOP.out.kept hg6 (own_apart HOP.out HOR.out (by decide))).alloc _); have HBs6 : B ≤ w6.heap.size := Nat.le_trans hB HB6.out.size; clear hown6 hg6)
                | ((with_reducible refine at_op ⟨_, .call { callee := .builtin .append, args := #[.tmp 41, .tmp 42], argTypes := #[26, 26] }, _, _, _, _⟩ ?_); refine wpList_append_src rfl (.tmp 41) (.tmp 42) 26 rfl B 3 iI _ 8 Tryz.underlying26 hiI hi0_ hi1_ hi2_ rfl _ (pl + j) ys rfl HP6.out (some ⟨w6.heap.size, 0, none⟩) 1 1 [.int .i64 (-90)] rfl rfl (Or.inr ⟨_, rfl, built_cells w6 _ _ _ rfl⟩) (fun u hu => by rw [List.mem_singleton] at hu; subst hu; rfl) (le_maxLen (by omega)) (by omega) (le_alloc _ HBs6) ?_; intro v7 w7 hown7 hg7; have HB7 : Hid (Below B w w7) := (HB6.out.alloc HBs6 _).grown hg7 (le_alloc _ HBs6) (fun q hq => (HP6.out.lt q hq).1); have HP7 : Hid (∃ xs, w7.ownsRow B 3 1 v7 (pl + (j + 1)) xs) := Lib.hid ⟨_, hown7⟩; have HR7 : Hid (∃ xs, w7.ownsRow B 5 1 v6 (rl + (j + 1)) xs) := Lib.hid ⟨_, (HR6.out.alloc _).kept hg7 (own_apart (HR6.out.alloc (.cells #[.int .i64 (-90)] 3)) HP6.out (by decide))⟩; clear hown7 hg7)
                | fail)
              go_roundw
              case rel => exact ⟨j + 1, by omega, by go_num, HR7, HP7, HB7⟩
              case measure => simp [intOf]; omega
            · obtain rfl : j = 64 := by omega
              obtain ⟨xs, hxs⟩ := HR.out
              obtain ⟨ys, hys⟩ := HP.out
              obtain ⟨X5, c5, rfl⟩ := own_sl hxs
              obtain ⟨X6, c6, rfl⟩ := own_sl hys
              clear hxs hys HR HP
              go_wp2_with fail
              go_ret
              exact ⟨ret_int (by omega), HB.out⟩
end Go.Proofs.YtepalbldleegiaaGreatDoor.sh

namespace Go.Proofs.YtepalbldleegiaaGreatDoor.sh
open Go.RowKit
open Go.Lib (itoa decDigits byteCells atoiAll)

theorem results_rparse (tmps : Array Value) (w : World) (cb : Nat) (cs : Array Value) (n : Int) (hsz : cs.size = 14) (h2 : tmps.getD 2 undef = .pointer (some ⟨cb, 0, none⟩)) (h3 : tmps.getD 3 undef = .int .i64 n) (hc : Blk w cb 28 cs) :
    (results Tryz.f14 tmps).run Tryz.prog w = .ok (.tuple #[.agg cs, .int .i64 n]) w := by
  have h2' : tmps[2]?.getD undef = .pointer (some ⟨cb, 0, none⟩) := by simpa using h2
  have h3' : tmps[3]?.getD undef = .int .i64 n := by simpa using h3
  have hi : (Tryz.prog.info? 28).map (·.size) = some cs.size := by rw [hsz]; kernel_rfl
  simp [results, h2', h3', asAddr, run_loadVar_row w cb 28 28 cs (0, 0) _ hc Tryz.underlying28 rfl hi]

set_option maxRecDepth 100000 in
set_option maxHeartbeats 8000000 in
theorem rparse_any (l : Bs) (hl : l.length ≤ 1048576) (w : World) : Calls Tryz.prog 14 #[.string (S l)] w (GivesC w (parseR wrap64 w32 l)) := by
  have hsz : (S l).size = l.length := S_size _
  obtain ⟨res, hres⟩ : ∃ x, parseR wrap64 w32 l = x := ⟨_, rfl⟩
  rw [hres]
  have HRES := Lib.hid hres
  have hbc : Below w.heap.size w (w.alloc (.cells zC 28)) := (Below.refl _ _).alloc (Nat.le_refl _) _
  have hTC := Blk.new w 28 zC
  clear hres
  unfold zC at hbc hTC
  go_enter Tryz.func14, Tryz.ntmps14
  go_upto_region 1 with fail
  generalize hw0 : w.alloc _ = w0 at hbc hTC ⊢
  clear hw0
  have HB0 := Lib.hid hbc
  have HTC := Lib.hid hTC
  clear hbc hTC
  by_cases hlong : 4096 < l.length
  · have HF : Hid (res = none) := Lib.hid (by rw [← HRES.out, parseR, if_pos hlong])
    have hlong' : 4096 < (l.length : Int) := by omega
    go_wp2_with (first
      | ((with_reducible refine at_op ⟨_, .store 28 (.tmp 2) (.tmp 10), _, _, _, _⟩ ?_); refine wpList_store_blk rfl 28 (.tmp 2) (.tmp 10) rfl w.heap.size 0 rfl (cmdL cmd0 nilS nilS) rfl (cmdL_onel _ _ _ rfl rfl) 28 _ HTC.out (show 0 + 14 ≤ 14 from Nat.le_refl 14) (by kernel_rfl) ?_; intro w1 hT1 hg1 hs1; rw [put_cmd _ rfl] at hT1; have HT1 := Lib.hid hT1; have HG1 := Lib.hid hg1; clear hT1 hg1 hs1)
      | fail)
    refine bodyPost_ret (results_rparse _ _ w.heap.size _ 230 rfl rfl rfl HT1.out) rfl ?_
    rw [HF.out]
    exact ⟨rfl, below_gb HB0.out HG1.out HB0.out.size (Nat.le_refl _)⟩
  · have hlong' : ¬ 4096 < (l.length : Int) := by omega
    have hI := cmdI_read l (by omega)
    have hrd := rread_any l hl w0
    unfold ReadPost at hrd
    obtain ⟨c, hc⟩ : ∃ c, readR wrap64 w32 l = c := ⟨_, rfl⟩
    have HR1 : Hid (res = if printL c = some l then some c else none) := Lib.hid (by rw [← HRES.out, parseR, if_neg hlong, hc])
    rw [hc] at hI hrd
    have HI := Lib.hid hI
    clear hI hc HRES
    go_wp2_with fail
    refine hrd.mono ?_
    clear hrd
    rintro e w1 ⟨sR, sP, rfl, hb1, hoR, hoP⟩
    obtain ⟨X, cX, rfl⟩ := own_sl hoR
    obtain ⟨Y, cY, rfl⟩ := own_sl hoP
    have hs0 := HB0.out.size
    have HB1 : Hid (Below w.heap.size w w1) := HB0.out.trans (hb1.mono hs0)
    have HTC1 : Hid (Blk w1 w.heap.size 28 _) := HTC.out.below hb1 HTC.out.lt
    have HSZ : Hid (w.heap.size < w1.heap.size) := HTC1.out.lt
    have HOR : Hid (w1.ownsRow w0.heap.size 5 1 _ _ _) := hoR
    have HOP : Hid (w1.ownsRow w0.heap.size 3 1 _ _ _) := hoP
    have HCL2 : Hid (cmdC c (.slice X c.raw.length cX) (.slice Y c.picks.length cY) = (cmdL c (.slice X c.raw.length cX) (.slice Y c.picks.length cY)).toArray) := cmdC_L _ _ _
    rw [HCL2.out]
    clear hb1 hoR hoP
    go_wp2_with (first
      | ((with_reducible refine at_op ⟨_, .store 28 (.tmp 4) (.tmp 12), _, _, _, _⟩ ?_); refine wpList_store_blk rfl 28 (.tmp 4) (.tmp 12) rfl w1.heap.size 0 rfl (cmdL c (.slice X c.raw.length cX) (.slice Y c.picks.length cY)) rfl (cmdL_onel _ _ _ rfl rfl) 28 zC (Blk.new w1 28 zC) (show 0 + 14 ≤ 14 from Nat.le_refl 14) (by kernel_rfl) ?_; rw [put_cmd _ rfl]; intro w2 hT2 hg2 hs2; have HT2 := Lib.hid hT2; have HB2 : Hid (Below w1.heap.size w1 w2) := below_gb ((Below.refl _ _).alloc (Nat.le_refl _) _) hg2 (le_alloc _ (Nat.le_refl _)) (Nat.le_refl _); clear hT2 hg2 hs2)
      | ((with_reducible refine at_op ⟨_, .load 28 (.tmp 4), _, _, _, _⟩ ?_); refine wpList_load_list rfl 28 (.tmp 4) rfl ⟨w1.heap.size, 0, none⟩ rfl (cmdL c (.slice X c.raw.length cX) (.slice Y c.picks.length cY)) (cmd_load HT2.out) _ Tryz.underlying28 rfl (by kernel_rfl) ?_)
      | fail)
    have HB2w : Hid (Below w.heap.size w w2) := HB1.out.trans (HB2.out.mono (Nat.le_of_lt HSZ.out))
    have HOR2 : Hid (w2.ownsRow w0.heap.size 5 1 _ _ _) := own_keep HOR.out HB2.out
    have HOP2 : Hid (w2.ownsRow w0.heap.size 3 1 _ _ _) := own_keep HOP.out HB2.out
    have HTC2 : Hid (Blk w2 w.heap.size 28 _) := HTC1.out.below HB2.out HSZ.out
    have hpr := rprint_any c X cX Y cY w2 HI.out (bytes_of_own HOR2.out) (ints_of_own HOP2.out)
    rw [HCL2.out] at hpr
    refine hpr.mono ?_
    clear hpr
    rcases hpl : printL c with _ | s
    · rintro e w3 ⟨rfl, hb3⟩
      have HF : Hid (res = none) := Lib.hid (by rw [HR1.out, hpl]; rfl)
      have HB3 : Hid (Below w.heap.size w w3) := HB2w.out.trans (hb3.mono HB2w.out.size)
      have HTC3 : Hid (Blk w3 w.heap.size 28 _) := HTC2.out.below hb3 HTC2.out.lt
      clear hpl hb3
      unfold prV
      go_wp2_with (first
        | ((with_reducible refine at_op ⟨_, .store 28 (.tmp 2) (.tmp 25), _, _, _, _⟩ ?_); refine wpList_store_blk rfl 28 (.tmp 2) (.tmp 25) rfl w.heap.size 0 rfl (cmdL cmd0 nilS nilS) rfl (cmdL_onel _ _ _ rfl rfl) 28 _ HTC3.out (show 0 + 14 ≤ 14 from Nat.le_refl 14) (by kernel_rfl) ?_; intro w4 hT4 hg4 hs4; rw [put_cmd _ rfl] at hT4; have HT4 := Lib.hid hT4; have HG4 := Lib.hid hg4; clear hT4 hg4 hs4)
        | fail)
      refine bodyPost_ret (results_rparse _ _ w.heap.size _ 230 rfl rfl rfl HT4.out) rfl ?_
      rw [HF.out]
      exact ⟨rfl, below_gb HB3.out HG4.out HB3.out.size (Nat.le_refl _)⟩
    · rintro e w3 ⟨rfl, hb3⟩
      have HB3 : Hid (Below w.heap.size w w3) := HB2w.out.trans (hb3.mono HB2w.out.size)
      have HTC3 : Hid (Blk w3 w.heap.size 28 _) := HTC2.out.below hb3 HTC2.out.lt
      have HT3 : Hid (Blk w3 w1.heap.size 28 _) := HT2.out.below hb3 HT2.out.lt
      have HOR3 : Hid (w3.ownsRow w0.heap.size 5 1 _ _ _) := own_keep HOR2.out hb3
      have HOP3 : Hid (w3.ownsRow w0.heap.size 3 1 _ _ _) := own_keep HOP2.out hb3
      have hw0s : w.heap.size < w0.heap.size := HTC.out.lt
      unfold prV
      by_cases hsl : s = l
      · subst hsl
        have HF : Hid (res = some c) := Lib.hid (by rw [HR1.out, if_pos hpl])
        clear hpl hb3
        go_wp2_with (first
          | ((with_reducible refine at_op ⟨_, .load 28 (.tmp 4), _, _, _, _⟩ ?_); refine wpList_load_list rfl 28 (.tmp 4) rfl ⟨w1.heap.size, 0, none⟩ rfl (cmdL c (.slice X c.raw.length cX) (.slice Y c.picks.length cY)) (cmd_load HT3.out) _ Tryz.underlying28 rfl (by kernel_rfl) ?_)
          | ((with_reducible refine at_op ⟨_, .store 28 (.tmp 2) (.tmp 26), _, _, _, _⟩ ?_); refine wpList_store_blk rfl 28 (.tmp 2) (.tmp 26) rfl w.heap.size 0 rfl (cmdL c (.slice X c.raw.length cX) (.slice Y c.picks.length cY)) rfl (cmdL_onel _ _ _ rfl rfl) 28 _ HTC3.out (show 0 + 14 ≤ 14 from Nat.le_refl 14) (by kernel_rfl) ?_; intro w4 hT4 hg4 hs4; rw [put_cmd _ rfl] at hT4; have HT4 := Lib.hid hT4; have HG4 := Lib.hid hg4; clear hT4 hg4 hs4)
          | fail)
        refine bodyPost_ret (results_rparse _ _ w.heap.size _ 0 rfl rfl rfl HT4.out) rfl ?_
        rw [HF.out]
        exact ⟨_, _, rfl, below_gb HB3.out HG4.out HB3.out.size (Nat.le_refl _), own_mono (own_gb HOR3.out HG4.out hw0s) (Nat.le_of_lt hw0s), own_mono (own_gb HOP3.out HG4.out hw0s) (Nat.le_of_lt hw0s)⟩
      · have HF : Hid (res = none) := Lib.hid (by rw [HR1.out, if_neg (fun e => hsl (Option.some.inj (hpl.symm.trans e)))])
        have hne : ((S s).toList == (S l).toList) = false := by rw [beq_eq_false_iff_ne, S_list, S_list]; exact hsl
        clear hpl hb3 hsl
        go_wp2_with (first
          | ((with_reducible refine at_op ⟨_, .store 28 (.tmp 2) (.tmp 25), _, _, _, _⟩ ?_); refine wpList_store_blk rfl 28 (.tmp 2) (.tmp 25) rfl w.heap.size 0 rfl (cmdL cmd0 nilS nilS) rfl (cmdL_onel _ _ _ rfl rfl) 28 _ HTC3.out (show 0 + 14 ≤ 14 from Nat.le_refl 14) (by kernel_rfl) ?_; intro w4 hT4 hg4 hs4; rw [put_cmd _ rfl] at hT4; have HT4 := Lib.hid hT4; have HG4 := Lib.hid hg4; clear hT4 hg4 hs4)
          | fail)
        refine bodyPost_ret (results_rparse _ _ w.heap.size _ 230 rfl rfl rfl HT4.out) rfl ?_
        rw [HF.out]
        exact ⟨rfl, below_gb HB3.out HG4.out HB3.out.size (Nat.le_refl _)⟩
end Go.Proofs.YtepalbldleegiaaGreatDoor.sh

namespace Go.Proofs.YtepalbldleegiaaGreatDoor.sh
open Go.RowKit
open Go.Lib (itoa decDigits byteCells atoiAll)

def cOf : Option Cmd → Cmd
  | some c => c
  | none => cmd0
def nOf : Option Cmd → Int
  | some _ => 0
  | none => 230
def Gives2 (w : World) (c : Cmd) (rl pl : Nat) (n : Int) (e : Ending) (w' : World) : Prop :=
  ∃ X cX Y cY, e = .returned (.tuple #[.agg (cmdC c (.slice X rl cX) (.slice Y pl cY)), .int .i64 n]) ∧ Below w.heap.size w w' ∧ w'.ownsRow w.heap.size 5 1 (.slice X rl cX) rl (byteCells c.raw) ∧ w'.ownsRow w.heap.size 3 1 (.slice Y pl cY) pl (intC c.picks)
theorem gives_both {w w' : World} {o : Option Cmd} {e : Ending} (h : GivesC w o e w') : Gives2 w (cOf o) (cOf o).raw.length (cOf o).picks.length (nOf o) e w' := by
  cases o with
  | none =>
    obtain ⟨rfl, hb⟩ := h
    exact ⟨none, 0, none, 0, rfl, hb, own_nilV _ _ _ _, own_nilV _ _ _ _⟩
  | some c =>
    obtain ⟨sR, sP, rfl, hb, hoR, hoP⟩ := h
    obtain ⟨X, cX, rfl⟩ := own_sl hoR
    obtain ⟨Y, cY, rfl⟩ := own_sl hoP
    exact ⟨X, cX, Y, cY, rfl, hb, hoR, hoP⟩
theorem cOf_bd (l : Bs) : (cOf (parseL l)).raw.length ≤ 1048576 ∧ (cOf (parseL l)).picks.length ≤ 1048576 := by
  rw [← parseR_eq]
  unfold parseR
  split
  · exact ⟨Nat.zero_le _, Nat.zero_le _⟩
  · split
    · have h := cmdI_read l (by omega)
      exact ⟨h.2.2.2.2.2.2.2.2.2.2.1, h.2.2.2.2.2.2.2.2.2.2.2⟩
    · exact ⟨Nat.zero_le _, Nat.zero_le _⟩

set_option maxRecDepth 100000 in
set_option maxHeartbeats 8000000 in
theorem parses_any (l : Bs) (hl : l.length ≤ 1048576) (w : World) (ht : Tab w) (hu : Use w) (he : Errs w) : Calls Tryz.prog 4 #[.string (S l)] w fun e w' => e = .returned (.bool true) ∧ Below w.heap.size w w' := by
  have hbd := cOf_bd l
  have hA : ∀ W, Below w.heap.size w W → Calls Tryz.prog 12 #[.string (S l)] W (Gives2 W (cOf (parseL l)) (cOf (parseL l)).raw.length (cOf (parseL l)).picks.length (nOf (parseL l))) := fun W hW => (parse_any l hl W (tab_below ht hW) (use_below hu hW) (he.below hW)).mono fun e w' h => gives_both h
  have hD : ∀ W, Calls Tryz.prog 14 #[.string (S l)] W (Gives2 W (cOf (parseL l)) (cOf (parseL l)).raw.length (cOf (parseL l)).picks.length (nOf (parseL l))) := fun W => by
    have := rparse_any l hl W
    rw [parseR_eq] at this
    exact this.mono fun e w' h => gives_both h
  generalize cOf (parseL l) = c at hbd hA hD
  generalize nOf (parseL l) = n at hA hD
  obtain ⟨rl, hrl⟩ : ∃ n, c.raw.length = n := ⟨_, rfl⟩
  obtain ⟨pl, hpl⟩ : ∃ n, c.picks.length = n := ⟨_, rfl⟩
  rw [hrl, hpl] at hbd hA hD
  obtain ⟨hb1, hb2⟩ := hbd
  have HA := Lib.hid hA
  have HD := Lib.hid hD
  have HRL := Lib.hid hrl
  have HPL := Lib.hid hpl
  clear hA hD hrl hpl ht hu he
  go_enter Tryz.func4, Tryz.ntmps4
  go_wp2_with fail
  refine (HA.out w (Below.refl _ _)).mono ?_
  rintro e w1 ⟨X, cX, Y, cY, rfl, hb1', hoR, hoP⟩
  have HB1 := Lib.hid hb1'
  have HOR1 := Lib.hid hoR
  have HOP1 := Lib.hid hoP
  rw [cmdC_L]
  clear hb1' hoR hoP
  go_wp2_with (first
    | ((with_reducible refine at_op ⟨_, .store 28 (.tmp 3) (.tmp 13), _, _, _, _⟩ ?_); refine wpList_store_blk rfl 28 (.tmp 3) (.tmp 13) rfl w1.heap.size 0 rfl (cmdL c (.slice X rl cX) (.slice Y pl cY)) rfl (cmdL_onel _ _ _ rfl rfl) 28 zC (Blk.new w1 28 zC) (show 0 + 14 ≤ 14 from Nat.le_refl 14) (by kernel_rfl) ?_; rw [put_cmd _ rfl]; intro w2 hT2 hg2 hs2; have HT2 := Lib.hid hT2; have HB2 : Hid (Below w1.heap.size w1 w2) := below_gb ((Below.refl _ _).alloc (Nat.le_refl _) _) hg2 (le_alloc _ (Nat.le_refl _)) (Nat.le_refl _); clear hT2 hg2 hs2)
    | fail)
  have HBW2 : Hid (Below w.heap.size w w2) := HB1.out.trans (HB2.out.mono HB1.out.size)
  have HOR2 := Lib.hid (own_keep HOR1.out HB2.out)
  have HOP2 := Lib.hid (own_keep HOP1.out HB2.out)
  refine (HA.out w2 HBW2.out).mono ?_
  rintro e w3 ⟨X', cX', Y', cY', rfl, hb3, hoR, hoP⟩
  have HB3 := Lib.hid hb3
  have HOR3 := Lib.hid hoR
  have HOP3 := Lib.hid hoP
  rw [cmdC_L]
  clear hb3 hoR hoP
  go_wp2_with (first
    | ((with_reducible refine at_op ⟨_, .store 28 (.tmp 5) (.tmp 18), _, _, _, _⟩ ?_); refine wpList_store_blk rfl 28 (.tmp 5) (.tmp 18) rfl w3.heap.size 0 rfl (cmdL c (.slice X' rl cX') (.slice Y' pl cY')) rfl (cmdL_onel _ _ _ rfl rfl) 28 zC (Blk.new w3 28 zC) (show 0 + 14 ≤ 14 from Nat.le_refl 14) (by kernel_rfl) ?_; rw [put_cmd _ rfl]; intro w4 hT4 hg4 hs4; have HT4 := Lib.hid hT4; have HB4 : Hid (Below w3.heap.size w3 w4) := below_gb ((Below.refl _ _).alloc (Nat.le_refl _) _) hg4 (le_alloc _ (Nat.le_refl _)) (Nat.le_refl _); clear hT4 hg4 hs4)
    | ((with_reducible refine at_op ⟨_, .load 28 (.tmp 5), _, _, _, _⟩ ?_); refine wpList_load_list rfl 28 (.tmp 5) rfl ⟨w3.heap.size, 0, none⟩ rfl (cmdL c (.slice X' rl cX') (.slice Y' pl cY')) (cmd_load HT4.out) _ Tryz.underlying28 rfl (by kernel_rfl) ?_)
    | fail)
  have HBW4 : Hid (Below w2.heap.size w2 w4) := HB3.out.trans (HB4.out.mono HB3.out.size)
  have hsp := spoilt_any c X' Y' rl pl cX' cY' w2.heap.size _ _ w4 HBW4.out.size (own_keep HOR3.out HB4.out) (own_keep HOP3.out HB4.out) hb1 hb2
  rw [cmdC_L] at hsp
  refine hsp.mono ?_
  clear hsp
  rintro e w5 ⟨rfl, hb5⟩
  have HBW5 : Hid (Below w2.heap.size w2 w5) := HBW4.out.trans hb5
  clear hb5
  go_wp2_with fail
  refine (HD.out w5).mono ?_
  rintro e w6 ⟨X2, cX2, Y2, cY2, rfl, hb6, hoR, hoP⟩
  have HB6 := Lib.hid hb6
  have HOR6 := Lib.hid hoR
  have HOP6 := Lib.hid hoP
  have HBW6 : Hid (Below w2.heap.size w2 w6) := HBW5.out.trans (hb6.mono HBW5.out.size)
  have HT6 : Hid (Blk w6 w1.heap.size 28 _) := HT2.out.below HBW6.out HT2.out.lt
  have hlt16 : w1.heap.size < w6.heap.size := HT6.out.lt
  have HT6' : Hid (Blk (w6.alloc (.cells zC 28)) w1.heap.size 28 _) := HT6.out.alloc _
  rw [cmdC_L]
  clear hb6 hoR hoP
  go_wp2_with (first
    | ((with_reducible refine at_op ⟨_, .store 28 (.tmp 8) (.tmp 25), _, _, _, _⟩ ?_); refine wpList_store_blk rfl 28 (.tmp 8) (.tmp 25) rfl w6.heap.size 0 rfl (cmdL c (.slice X2 rl cX2) (.slice Y2 pl cY2)) rfl (cmdL_onel _ _ _ rfl rfl) 28 zC (Blk.new w6 28 zC) (show 0 + 14 ≤ 14 from Nat.le_refl 14) (by kernel_rfl) ?_; rw [put_cmd _ rfl]; intro w7 hT7 hg7 hs7; have HT7 := Lib.hid hT7; have HTA7 : Hid (Blk w7 w1.heap.size 28 _) := HT6'.out.gb hg7 (by omega); have HB7 : Hid (Below w6.heap.size w6 w7) := below_gb ((Below.refl _ _).alloc (Nat.le_refl _) _) hg7 (le_alloc _ (Nat.le_refl _)) (Nat.le_refl _); clear hT7 hg7 hs7)
    | ((with_reducible refine at_op ⟨_, .load 28 (.tmp 3), _, _, _, _⟩ ?_); refine wpList_load_list rfl 28 (.tmp 3) rfl ⟨w1.heap.size, 0, none⟩ rfl (cmdL c (.slice X rl cX) (.slice Y pl cY)) (cmd_load HTA7.out) _ Tryz.underlying28 rfl (by kernel_rfl) ?_)
    | ((with_reducible refine at_op ⟨_, .load 28 (.tmp 8), _, _, _, _⟩ ?_); refine wpList_load_list rfl 28 (.tmp 8) rfl ⟨w6.heap.size, 0, none⟩ rfl (cmdL c (.slice X2 rl cX2) (.slice Y2 pl cY2)) (cmd_load HT7.out) _ Tryz.underlying28 rfl (by kernel_rfl) ?_)
    | fail)
  have HBW7 : Hid (Below w2.heap.size w2 w7) := HBW6.out.trans (HB7.out.mono HBW6.out.size)
  have o1 := own_keep HOR2.out HBW7.out
  have o2 := own_keep HOP2.out HBW7.out
  have o3 := own_keep HOR6.out HB7.out
  have o4 := own_keep HOP6.out HB7.out
  rw [← HRL.out] at o1 o3
  rw [← HPL.out] at o2 o4
  have hsm := same_eq c X X2 Y Y2 cX cX2 cY cY2 w7 (bytes_of_own o1) (bytes_of_own o3) (ints_of_own o2) (ints_of_own o4) (by rw [HRL.out]; exact hb1) (by rw [HPL.out]; exact hb2)
  rw [HRL.out, HPL.out, cmdC_L, cmdC_L] at hsm
  clear o1 o2 o3 o4
  refine hsm.mono ?_
  clear hsm
  rintro e w8 ⟨rfl, hb8⟩
  have HT8 : Hid (Blk w8 w6.heap.size 28 _) := HT7.out.below hb8 HT7.out.lt
  have c11 : w8.cell? ⟨w6.heap.size, 11, none⟩ = some (.slice X2 rl cX2) := HT8.out.cell 11
  have c13 : w8.cell? ⟨w6.heap.size, 13, none⟩ = some (.slice Y2 pl cY2) := HT8.out.cell 13
  have HBE : Hid (Below w.heap.size w w8) := HBW2.out.trans ((HBW7.out.trans (hb8.mono HBW7.out.size)).mono HBW2.out.size)
  clear hb8
  go_wp2_with fail
  go_ret
  exact ⟨rfl, HBE.out⟩
end Go.Proofs.YtepalbldleegiaaGreatDoor.sh
