/-
  The check sum of a text: walked.
  Conditions: the text lies in memory.
-/
import Derived.Test.YtepmjghgnhklfaaGreatDoorOca
namespace Go.Proofs.YtepmjghgnhklfaaGreatDoor.oc
open Go.RowKit
set_option maxRecDepth 100000

/-- a slice of bytes that reads as a list -/
def RB (w : World) (A : Option Addr) (l : List UInt8) : Prop := 0 < l.length → ∃ b off, A = some ⟨b, off, none⟩ ∧ b < w.heap.size ∧ ∀ j (h : j < l.length), w.cell? ⟨b, off + j, none⟩ = some (.int .u8 (l[j].toNat : Int))
theorem RB.nil (w : World) (A : Option Addr) : RB w A [] := fun h => by simp at h
theorem RB.below {w w' : World} {A : Option Addr} {l : List UInt8} (h : RB w A l) (hb : Below w.heap.size w w') : RB w' A l := fun h0 => by
  obtain ⟨b, off, e, hlt, hc⟩ := h h0
  exact ⟨b, off, e, Nat.lt_of_lt_of_le hlt hb.size, fun j hj => (hb.cell (p := ⟨b, off + j, none⟩) hlt).trans (hc j hj)⟩
def crcRound (x c : Nat) : Nat :=
  let y := x ^^^ c
  let z := tabN (y % 16) ^^^ (y / 16)
  tabN (z % 16) ^^^ (z / 16)
def crcN (x : Nat) (l : List UInt8) : Nat := l.foldl (fun x c => crcRound x c.toNat) x
def extN (s : Nat) (l : List UInt8) : Nat := 4294967295 ^^^ crcN (4294967295 ^^^ s) l
theorem xor_lt {a b : Nat} (ha : a < 4294967296) (hb : b < 4294967296) : a ^^^ b < 4294967296 := Nat.xor_lt_two_pow (n := 32) (by omega) (by omega)
theorem crcRound_lt {x c : Nat} (hx : x < 4294967296) (hc : c < 256) : crcRound x c < 4294967296 := by
  unfold crcRound
  have hy : x ^^^ c < 4294967296 := xor_lt hx (by omega)
  have hz : tabN ((x ^^^ c) % 16) ^^^ ((x ^^^ c) / 16) < 4294967296 := xor_lt (tabN_lt (by omega)) (by omega)
  exact xor_lt (tabN_lt (by omega)) (by omega)
theorem crcN_lt {x : Nat} (hx : x < 4294967296) : ∀ (l : List UInt8), crcN x l < 4294967296
  | [] => hx
  | c :: l => crcN_lt (x := crcRound x c.toNat) (crcRound_lt hx c.toNat_lt) l
theorem crcN_snoc (x : Nat) (l : List UInt8) (c : UInt8) : crcN x (l ++ [c]) = crcRound (crcN x l) c.toNat := by simp [crcN]
theorem extN_lt {s : Nat} (hs : s < 4294967296) (l : List UInt8) : extN s l < 4294967296 := xor_lt (by decide) (crcN_lt (xor_lt (by decide) hs) l)
theorem e_not (x : Nat) (h : x < 4294967296) : bits .xor .u32 IntKind.u32.max (x : Int) = ((4294967295 ^^^ x : Nat) : Int) := u32_xor_nat 4294967295 x (by decide) h
theorem e_xor (x c : Nat) (h : x < 4294967296) (hc : c < 256) : bits .xor .u32 (x : Int) (c : Int) = ((x ^^^ c : Nat) : Int) := u32_xor_nat x c h (by omega)
theorem e_and (y : Nat) (h : y < 4294967296) : bits .and .u32 (y : Int) 15 = ((y % 16 : Nat) : Int) := by
  have := u32_and_nat y 15 h (by decide)
  rwa [show y &&& 15 = y % 16 from Nat.and_two_pow_sub_one_eq_mod y 4] at this
theorem e_mix (t y : Nat) (ht : t < 4294967296) (h : y < 4294967296) : bits .xor .u32 (t : Int) ((y : Int) / 16) = ((t ^^^ (y / 16) : Nat) : Int) := by
  rw [show ((y : Int) / 16) = ((y / 16 : Nat) : Int) by omega]
  exact u32_xor_nat t (y / 16) ht (by omega)
theorem take_snoc8 (l : List UInt8) (k : Nat) (h : k < l.length) : l.take (k + 1) = l.take k ++ [l[k]] := List.take_succ_eq_append_getElem h

set_option maxHeartbeats 2000000 in
theorem extend_any (s : Nat) (hs : s < 4294967296) (l : List UInt8) (hl : l.length ≤ 9223372036854775807) (A : Option Addr) (c : Nat) (w : World) (h : RB w A l) : Calls Tryz.prog 109 #[.int .u32 (s : Int), .slice A l.length c] w fun e w' => e = .returned (.int .u32 (extN s l : Nat)) ∧ Below w.heap.size w w' := by
  have hnot := e_not s hs
  have hx0 : 4294967295 ^^^ s < 4294967296 := xor_lt (by decide) hs
  have HEX : Hid (extN s l = 4294967295 ^^^ crcN (4294967295 ^^^ s) l) := rfl
  generalize 4294967295 ^^^ s = x0 at hnot hx0 HEX
  have HX0 := Lib.hid hx0
  have HR := Lib.hid h
  clear hx0 h hs
  go_enter Tryz.func109, Tryz.ntmps109
  go_wp2_with (first
    | (go_at_call 159; refine (sums_any _).mono ?_; rintro e w1 ⟨rfl, hb1⟩; have HB1 := Lib.hid hb1; clear hb1)
    | ((with_reducible refine at_op ⟨_, .store 251 (.tmp 6) (.tmp 11), _, _, _, _⟩ ?_); refine wpList_store_blk rfl 251 (.tmp 6) (.tmp 11) rfl w1.heap.size 0 rfl (tabL 16) rfl (by decide) 251 _ (Blk.new w1 _ _) (by simp [tabL_length]) (by kernel_rfl) ?_; intro w2 hT2 hg2 hs2; rw [put_all _ _ (by simp [tabL_length])] at hT2; have HT2 := Lib.hid hT2; have HG2 : Hid (Below w1.heap.size w1 w2) := Lib.hid (below_gb ((Below.refl _ _).alloc (Nat.le_refl _) _) hg2 (by simp) (Nat.le_refl _)); clear hT2 hg2 hs2)
    | fail)
  have HB2 : Hid (Below w.heap.size w w2) := HB1.out.trans (HG2.out.mono HB1.out.size)
  have HR2 := Lib.hid (HR.out.below HB2.out)
  clear hnot
  go_loop [5, 14] (fun x i => ∃ k : Nat, k ≤ l.length ∧ i = .int .i64 (k : Int) ∧ x = .int .u32 (crcN x0 (l.take k) : Nat)) (fun _ i => l.length - (intOf i).toNat)
  case atStart => exact ⟨0, Nat.zero_le _, rfl, rfl⟩
  case round =>
    obtain ⟨k, hk, rfl, rfl⟩ := hrel
    have hxl : crcN x0 (l.take k) < 4294967296 := crcN_lt HX0.out _
    by_cases hlt : k < l.length
    · obtain ⟨b, off, rfl, hbl, hcell⟩ := HR2.out (by omega)
      have c0 := hcell k hlt
      have hc256 : l[k].toNat < 256 := l[k].toNat_lt
      have HN : Hid (crcN x0 (l.take (k + 1)) = crcRound (crcN x0 (l.take k)) l[k].toNat) := Lib.hid (by rw [take_snoc8 l k hlt, crcN_snoc])
      clear hcell hbl
      generalize l[k].toNat = ch at c0 hc256 HN
      generalize crcN x0 (l.take k) = x at hxl HN ⊢
      have e1 := e_xor x ch hxl hc256
      have hy : x ^^^ ch < 4294967296 := xor_lt hxl (by omega)
      have HN1 : Hid (crcN x0 (l.take (k + 1)) = tabN ((tabN ((x ^^^ ch) % 16) ^^^ ((x ^^^ ch) / 16)) % 16) ^^^ ((tabN ((x ^^^ ch) % 16) ^^^ ((x ^^^ ch) / 16)) / 16)) := HN.out
      clear HN
      generalize x ^^^ ch = y at e1 hy HN1
      have e2 := e_and y hy
      have hk1 : y % 16 < 16 := by omega
      have t1 := tabN_lt hk1
      have e3 := e_mix (tabN (y % 16)) y t1 hy
      have hz : tabN (y % 16) ^^^ (y / 16) < 4294967296 := xor_lt t1 (by omega)
      have c1 : w2.cell? ⟨w1.heap.size, y % 16, none⟩ = some (.int .u32 (tabN (y % 16) : Nat)) := by rw [HT2.out.cell, List.getElem?_toArray, tabL_at _ _ hk1, if_pos hk1]
      generalize tabN (y % 16) ^^^ (y / 16) = z at e3 hz HN1
      generalize tabN (y % 16) = ty at e3 c1 t1
      generalize y % 16 = ky at e2 c1 hk1
      have e4 := e_and z hz
      have hk2 : z % 16 < 16 := by omega
      have t2 := tabN_lt hk2
      have e5 := e_mix (tabN (z % 16)) z t2 hz
      have c2 : w2.cell? ⟨w1.heap.size, z % 16, none⟩ = some (.int .u32 (tabN (z % 16) : Nat)) := by rw [HT2.out.cell, List.getElem?_toArray, tabL_at _ _ hk2, if_pos hk2]
      generalize tabN (z % 16) ^^^ (z / 16) = x' at e5 HN1
      generalize tabN (z % 16) = tz at e5 c2 t2
      generalize z % 16 = kz at e4 c2 hk2
      go_wp2_with fail
      go_round
      case rel => exact ⟨k + 1, by omega, by go_num, by rw [HN1.out]⟩
      case measure => simp [intOf]; omega
    · obtain rfl : k = l.length := by omega
      rw [List.take_length] at hxl ⊢
      have e6 := e_not _ hxl
      rw [← HEX.out] at e6
      go_wp2_with fail
      go_ret
      exact ⟨rfl, HB2.out⟩
theorem sum_any (l : List UInt8) (hl : l.length ≤ 9223372036854775807) (A : Option Addr) (c : Nat) (w : World) (h : RB w A l) : Calls Tryz.prog 156 #[.slice A l.length c] w fun e w' => e = .returned (.int .u32 (extN 0 l : Nat)) ∧ Below w.heap.size w w' := by
  have hE := extend_any 0 (by decide) l hl A c w h
  go_enter Tryz.func156, Tryz.ntmps156
  have HE := Lib.hid hE
  clear hE h
  go_wp2_with (go_at_call 109; refine HE.out.mono ?_; rintro e w1 ⟨rfl, hb1⟩)
  go_ret
  exact ⟨rfl, hb1⟩
end Go.Proofs.YtepmjghgnhklfaaGreatDoor.oc
