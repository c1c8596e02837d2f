/-
  The document's numbers walked: two digits of hex, decimal digits.
  Conditions: a number is an int64.
-/
import Derived.Test.YtepalbldleegiaaGreatDoorSwa
import Derived.Deep.RegionWith
import Derived.WalkSpells
namespace Go.Proofs.YtepalbldleegiaaGreatDoor.sh
open Go.RowKit
open Go.Lib (itoa decDigits)

theorem S_append (a b : Bs) : S a ++ S b = S (a ++ b) := by
  apply Go.WideShapes.bytes_inj
  simp [S]
theorem S_size (a : Bs) : (S a).size = a.length := rfl
def dgs : ByteArray := ⟨#[48, 49, 50, 51, 52, 53, 54, 55, 56, 57, 97, 98, 99, 100, 101, 102]⟩
theorem dgs_slice (i : Int) (h0 : 0 ≤ i) (h1 : i + 1 ≤ 16) (W : World) : (Instr.slice 9 (.string dgs) (some (.int .u8 i)) (some (.int .u8 (i + 1))) none).run Tryz.prog W = .ok (.string (S [hexd i.toNat])) W := by
  rw [run_slice_string_if _ _ _ _ _ _ _ Tryz.underlying9, if_pos (by show 0 ≤ i + 1 ∧ i + 1 ≤ 16; omega), if_pos (by omega)]
  have h : ∀ k : Fin 16, dgs.extract k.val (k.val + 1) = S [hexd k.val] := by decide +kernel
  have := h ⟨i.toNat, by omega⟩
  rw [show (i + 1).toNat = i.toNat + 1 by omega, this]
theorem hex_any (n : Int) (h : 0 ≤ n ∧ n ≤ 255) (w : World) : Calls Tryz.prog 28 #[.int .u8 n] w fun e w' => e = .returned (.string (S (hexL (UInt8.ofNat n.toNat)))) ∧ Below w.heap.size w w' := by
  go_enter Tryz.func28, Tryz.ntmps28
  go_wp2
  have h1 : 0 ≤ n / 16 := by omega
  have h2 : 0 ≤ n % 16 := by omega
  have h3 : n / 16 + 1 ≤ 16 := by omega
  have h4 : n % 16 + 1 ≤ 16 := by omega
  have hs1 : ∀ W, (Instr.slice 9 (.string { data := #[48, 49, 50, 51, 52, 53, 54, 55, 56, 57, 97, 98, 99, 100, 101, 102] }) (some (.int .u8 (n / 16))) (some (.int .u8 (n / 16 + 1))) none).run Tryz.prog W = .ok (.string (S [hexd (n / 16).toNat])) W := dgs_slice _ h1 h3
  have hs2 : ∀ W, (Instr.slice 9 (.string { data := #[48, 49, 50, 51, 52, 53, 54, 55, 56, 57, 97, 98, 99, 100, 101, 102] }) (some (.int .u8 (n % 16))) (some (.int .u8 (n % 16 + 1))) none).run Tryz.prog W = .ok (.string (S [hexd (n % 16).toNat])) W := dgs_slice _ h2 h4
  have z1 : (S [hexd (n / 16).toNat]).size = 1 := rfl
  have z2 : (S [hexd (n % 16).toNat]).size = 1 := rfl
  go_region
  go_wp2
  go_ret
  refine ⟨ret_str ?_, (Below.refl _ _).drew⟩
  rw [S_append]
  have e : (UInt8.ofNat n.toNat).toNat = n.toNat := by rw [UInt8.toNat_ofNat']; omega
  unfold hexL
  rw [e, show (n / 16).toNat = n.toNat / 16 by omega, show (n % 16).toNat = n.toNat % 16 by omega]
  rfl
theorem S_add (a b : Bs) (ha : a.length + b.length ≤ 140737488355328) (W : World) : (Op.stringOp .add (S a) (S b)).run Tryz.prog W = .ok (.string (S (a ++ b))) W := by
  rw [run_string_add_sum _ _ _ (by show a.length + b.length ≤ _; omega), S_append]
theorem dec_len : ∀ (k n : Nat), n < 10 ^ (k + 1) → (decDigits n).length ≤ k + 1 := by
  intro k
  induction k with
  | zero => intro n h; rw [dec_small (by omega)]; simp
  | succ k ih =>
    intro n h
    by_cases hs : n < 10
    · rw [dec_small hs]; simp
    · rw [dec_big hs, List.length_append]
      have := ih (n / 10) (by rw [Nat.pow_succ] at h; omega)
      simp only [List.length_singleton]
      omega
theorem conv_at (W : World) (g : Nat) (x : Int) (h0 : 0 ≤ x) (h1 : x ≤ 255) (hc : W.cell? ⟨g, 0, none⟩ = some (.int .u8 x)) : (convert 25 9 (.slice (some ⟨g, 0, none⟩) 1 1)).run Tryz.prog W = .ok (.string (S [UInt8.ofNat x.toNat])) W := by
  refine run_convert_bytes_back _ _ _ _ _ 1 [UInt8.ofNat x.toNat] Tryz.underlying25 Tryz.underlying5 Tryz.underlying9 fun j hj => ?_
  have hj0 : j = 0 := by simpa using hj
  subst hj0
  have e : ((UInt8.ofNat x.toNat).toNat : Int) = x := by rw [UInt8.toNat_ofNat']; omega
  simp only [List.getElem_cons_zero, e]
  exact hc
theorem one_conv (W : World) (x : Int) (h0 : 0 ≤ x) (h1 : x ≤ 255) : (convert 25 9 (.slice (some ⟨W.heap.size, 0, none⟩) 1 1)).run Tryz.prog (W.alloc (.cells #[.int .u8 x] 5)) = .ok (.string (S [UInt8.ofNat x.toNat])) (W.alloc (.cells #[.int .u8 x] 5)) := conv_at _ _ x h0 h1 (cell_of_row _ _ 0 _ _ (0, 0) (heap_alloc_new W _))
theorem one_conv_drew (W : World) (x : Int) (h0 : 0 ≤ x) (h1 : x ≤ 255) : (convert 25 9 (.slice (some ⟨W.heap.size, 0, none⟩) 1 1)).run Tryz.prog (W.alloc (.cells #[.int .u8 x] 5)).drew = .ok (.string (S [UInt8.ofNat x.toNat])) (W.alloc (.cells #[.int .u8 x] 5)).drew := conv_at _ _ x h0 h1 (cell_of_row (W.alloc (.cells #[.int .u8 x] 5)).drew _ 0 _ _ (0, 0) (heap_alloc_new W _))
def U64 (n : Nat) : Prop := n < 18446744073709551616
set_option maxRecDepth 100000 in
theorem digits_any : ∀ (n : Nat) (_ : U64 n) (w : World), Calls Tryz.prog 64 #[.int .u64 n] w fun e w' => e = .returned (.string (S (decDigits n))) ∧ Below w.heap.size w w' := by
  intro n
  induction n using Nat.strongRecOn with
  | _ n ih =>
    intro hn w
    by_cases hs : n < 10
    · go_enter Tryz.func64, Tryz.ntmps64
      have hcv := fun W => one_conv W (48 + (n : Int)) (by omega) (by omega)
      go_wp2
      go_ret
      exact ⟨ret_str (by rw [dec_small hs]), (Below.refl _ _).alloc (Nat.le_refl _) _⟩
    · have hn10 : U64 (n / 10) := Nat.lt_of_le_of_lt (Nat.div_le_self _ _) hn
      have hl : (decDigits (n / 10)).length ≤ 20 := dec_len 19 _ (Nat.lt_trans hn10 (by decide))
      have e1 : IntKind.u64.wrap ((n : Int) / 10) = ((n / 10 : Nat) : Int) := by
        have := hn
        unfold U64 at this
        simp [IntKind.wrap, IntKind.bits, IntKind.signed]
        omega
      have E10 := Lib.hid e1
      obtain ⟨X, hX⟩ : ∃ X, X = IntKind.u8.wrap (IntKind.u64.wrap (48 + (n : Int).tmod 10)) := ⟨_, rfl⟩
      have hX2 : X = 48 + (n : Int) % 10 := by
        rw [hX, Int.tmod_eq_emod_of_nonneg (by omega)]
        simp [IntKind.wrap, IntKind.bits, IntKind.signed]
        omega
      have hx0 : 0 ≤ X := by omega
      have hx1 : X ≤ 255 := by omega
      have hcv := fun W => one_conv W X (by omega) (by omega)
      have hcv2 := fun W => one_conv_drew W X (by omega) (by omega)
      have hadd := fun W => S_add (decDigits (n / 10)) [UInt8.ofNat X.toNat] (by simp only [List.length_singleton]; omega) W
      have HX2 := Lib.hid hX2
      rw [hX] at hcv hcv2 hadd hx0 hx1
      clear hX2 e1
      go_enter Tryz.func64, Tryz.ntmps64
      go_wp2
      go_region_with (go_at_call 64; rw [E10.out]; refine (ih (n / 10) (by omega) hn10 _).mono ?_; rintro e w1 ⟨rfl, hb⟩; try have hcv1 := conv_at w1 w.heap.size _ hx0 hx1 ((hb.cell (p := ⟨w.heap.size, 0, none⟩) (by simp)).trans (cell_of_row _ _ 0 _ _ (0, 0) (heap_alloc_new _ _))))
      all_goals
        have HBB : Below w.heap.size w w1 := by first | exact ⟨hb.os, hb.tape, hb.output, hb.size, hb.block⟩ | exact (((Below.refl _ w).alloc (Nat.le_refl _) _).drew).trans (hb.mono (by simp))
        have HF := Lib.hid HBB
        clear HBB hb
        go_wp2
        go_ret
        refine ⟨ret_str ?_, by first | exact HF.out | exact HF.out.alloc HF.out.size _⟩
        try rw [S_append]
        rw [dec_big hs, ← hX, HX2.out]
        congr 3
end Go.Proofs.YtepalbldleegiaaGreatDoor.sh
