/-
  Plain law of reading back: a number, a text, bytes as they are written are read as what they were.
  Conditions: a number is an int64 where it is said.
-/
import Derived.Test.YtepalbldleegiaaGreatDoorSha
import Derived.Lib.AtoiAllCases
import Derived.Lib.ItoaNum
namespace Go.Proofs.YtepalbldleegiaaGreatDoor.sh
open Go.Lib (itoa decDigits atoiAll parseMag parseUint10 NumEnd)

theorem parse_append : ∀ (a : Bs) (b : Bs) (acc v : Nat), parseUint10 acc a = .ok v → parseUint10 acc (a ++ b) = parseUint10 v b
  | [], b, acc, v, h => by simp only [parseUint10, NumEnd.ok.injEq] at h; subst h; rfl
  | c :: a, b, acc, v, h => by
    simp only [parseUint10, List.cons_append] at h ⊢
    split at h
    · rename_i hc
      rw [if_pos hc]
      split at h
      · cases h
      · rename_i h1
        rw [if_neg h1]
        split at h
        · cases h
        · rename_i h2
          rw [if_neg h2]
          exact parse_append a b _ v h
    · cases h
theorem digit_toNat (k : Nat) (h : k < 10) : (UInt8.ofNat (48 + k)).toNat = 48 + k := by
  rw [UInt8.toNat_ofNat']; exact Nat.mod_eq_of_lt (by omega)
theorem parse_dec (u : Nat) : u < 18446744073709551616 → parseUint10 0 (decDigits u) = .ok u := by
  induction u using Nat.strongRecOn with
  | _ u ih =>
    intro hu
    by_cases h : u < 10
    · rw [dec_small h]
      simp only [parseUint10, digit_toNat u h]
      rw [if_pos (by omega), if_neg (by omega), if_neg (by omega)]
      congr 1; omega
    · rw [dec_big h, parse_append _ _ _ _ (ih (u / 10) (by omega) (by omega))]
      simp only [parseUint10, digit_toNat (u % 10) (by omega)]
      rw [if_pos (by omega), if_neg (by omega), if_neg (by omega)]
      congr 1; omega
theorem mag_dec (u : Nat) (h : u < 18446744073709551616) : parseMag (decDigits u) = .ok u := by
  unfold parseMag
  rw [if_neg (dec_ne u), parse_dec u h]
theorem atoi_itoa (n : Int) (h0 : -9223372036854775808 ≤ n) (h1 : n ≤ 9223372036854775807) : atoiAll (itoa n) = .ok n := by
  unfold itoa
  by_cases hn : n < 0
  · rw [if_pos hn, Go.Lib.atoiAll_minus, mag_dec _ (by omega)]
    simp only [Go.Lib.signed]
    rw [if_neg (by omega)]
    congr 1; omega
  · rw [if_neg hn]
    have hd := vis_dec n.toNat
    cases hq : decDigits n.toNat with
    | nil => exact (dec_ne _ hq).elim
    | cons c r =>
      have hc := hd c (by rw [hq]; exact List.mem_cons_self)
      have e1 : c.toNat ≠ 43 := fun e => by have := UInt8.le_iff_toNat_le.1 hc.1; rw [e] at this; exact absurd this (by decide)
      have e2 : c.toNat ≠ 45 := fun e => by have := UInt8.le_iff_toNat_le.1 hc.1; rw [e] at this; exact absurd this (by decide)
      rw [Go.Lib.atoiAll_plain c r e1 e2, ← hq, mag_dec _ (by omega)]
      simp only [Go.Lib.signless]
      rw [if_neg (by omega)]
      congr 1; omega

/-! ### hex digits -/
/-- the place of a byte among the digits -/
def dig (c : UInt8) : Option Nat := if 48 ≤ c ∧ c ≤ 57 then some (c.toNat - 48) else if 97 ≤ c ∧ c ≤ 102 then some (c.toNat - 87) else none
theorem dig_hexd : ∀ a : Nat, a < 16 → dig (hexd a) = some a := by
  intro a ha
  have : ∀ a : Fin 16, dig (hexd a.val) = some a.val := by decide
  exact this ⟨a, ha⟩
def byteOf (h l : UInt8) : Option UInt8 := (dig h).bind fun x => (dig l).map fun y => UInt8.ofNat (16 * x + y)
theorem byteOf_hex (c : UInt8) : byteOf (hexd (c.toNat / 16)) (hexd (c.toNat % 16)) = some c := by
  unfold byteOf
  rw [dig_hexd _ (hex_lt c).1, dig_hexd _ (hex_lt c).2]
  simp only [Option.bind_some, Option.map_some]
  congr 1
  rw [Nat.div_add_mod]
  simp
/-- bytes out of pairs of digits -/
def bytesL : Bs → Option Bs
  | [] => some []
  | [_] => none
  | h :: l :: s => (byteOf h l).bind fun b => (bytesL s).map (b :: ·)
theorem bytes_hex : ∀ s : Bs, bytesL (s.flatMap hexL) = some s
  | [] => rfl
  | c :: s => by
    rw [List.flatMap_cons]
    simp only [hexL, List.cons_append, List.nil_append, bytesL, byteOf_hex, Option.bind_some, bytes_hex s, Option.map_some]

/-! ### texts -/
/-- what stands between the quotes, read -/
def unesc : Bs → Option Bs
  | [] => some []
  | 92 :: 120 :: h :: l :: s => (byteOf h l).bind fun b => (unesc s).map (b :: ·)
  | 92 :: d :: s => (unesc s).map (d :: ·)
  | [92] => none
  | c :: s => (unesc s).map (c :: ·)
theorem unesc_other (c : UInt8) (s : Bs) (h : c ≠ 92) : unesc (c :: s) = (unesc s).map (c :: ·) := by
  rw [unesc] <;> simp_all
theorem unesc_two (d : UInt8) (s : Bs) (h : d ≠ 120) : unesc (92 :: d :: s) = (unesc s).map (d :: ·) := by
  rw [unesc] <;> simp_all
theorem unesc_esc : ∀ s : Bs, unesc (s.flatMap escL) = some s
  | [] => rfl
  | c :: s => by
    rw [List.flatMap_cons]
    rcases escL_form c with ⟨e, h⟩ | ⟨e, _, h2, _⟩ | e <;> rw [e]
    · simp only [List.cons_append, List.nil_append]
      rw [unesc_two c _ (by rcases h with rfl | rfl <;> decide), unesc_esc s]
      rfl
    · simp only [List.cons_append, List.nil_append]
      rw [unesc_other c _ h2, unesc_esc s]
      rfl
    · simp only [hexL, List.cons_append, List.nil_append, unesc, byteOf_hex, Option.bind_some, unesc_esc s, Option.map_some]
/-- a part read as a text -/
def readT (s : Bs) : Option Bs := if s.head? ≠ some 34 then some s else if s.length < 2 ∨ s.getLast? ≠ some 34 then none else unesc (s.drop 1).dropLast
theorem readT_text (s : Bs) : readT (textL s) = some s := by
  unfold textL
  split
  · rename_i h
    unfold readT
    rw [if_pos]
    intro e
    cases s with
    | nil => simp at e
    | cons c s =>
      simp only [List.head?_cons, Option.some.injEq] at e
      subst e
      have := List.all_eq_true.1 h.2 34 List.mem_cons_self
      exact absurd this (by decide)
  · unfold readT
    have hl : (34 :: (s.flatMap escL ++ [34]) : Bs).getLast? = some 34 := by
      rw [← List.cons_append, List.getLast?_append]; simp
    rw [if_neg (by simp), if_neg (by rw [hl]; simp)]
    simp only [List.drop_succ_cons, List.drop_zero, List.dropLast_concat]
    exact unesc_esc s
end Go.Proofs.YtepalbldleegiaaGreatDoor.sh
