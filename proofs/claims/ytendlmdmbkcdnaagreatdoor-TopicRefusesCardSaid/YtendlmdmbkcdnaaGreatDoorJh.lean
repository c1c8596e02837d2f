/-
  Texts of the proof joined by a program: Sga Sgb Sgc Sgd Odb Odc Dda Ddb Ddc Ddd Gha Ghb Osp Osq Osv.
-/
import Derived.Test.YtendlmdmbkcdnaaGreatDoorJd
import Derived.Test.YtendlmdmbkcdnaaGreatDoorJg
import Derived.Test.YtendlmdmbkcdnaaGreatDoorSml
import Derived.Lib.ItoaNum
import Derived.Lib.AppendIntMem
import Derived.Lib.ItoaLen
import Derived.Test.YtendlmdmbkcdnaaGreatDoorJc
set_option linter.unusedSimpArgs false
set_option linter.unusedVariables false
namespace Go.Proofs.YtendlmdmbkcdnaaGreatDoor.sg
open Go.RowKit oc rc
set_option maxRecDepth 100000
def hd1 (topic seg base : Nat) : List UInt8 := ((([] ++ [UInt8.ofNat 173]) ++ be4 topic) ++ be4 seg) ++ be8 base
def headN (topic seg base : Nat) : List UInt8 := hd1 topic seg base ++ be4 (extN 0 (hd1 topic seg base))
theorem be8_length (v : Nat) : (be8 v).length = 8 := rfl
theorem be4_len (v : Nat) : (be4 v).length = 4 := rfl
theorem hd1_len (t s b : Nat) : (hd1 t s b).length = 17 := by simp [hd1, be8_length, be4_len]
set_option maxHeartbeats 4000000 in
theorem head_any (w : World) (topic seg base : Nat) (ht : topic < 4294967296) (hs : seg < 4294967296) (hb : base < 9223372036854775808) :
   Calls Tryz.prog 154 #[.int .i64 (topic : Int), .int .i64 (seg : Int), .int .i64 (base : Int)] w fun e w' => ∃ A c, e = .returned (.slice A (headN topic seg base).length c) ∧ w'.ownsRow w.heap.size 5 1 (.slice A (headN topic seg base).length c) (headN topic seg base).length (bc (headN topic seg base)) ∧ Below w.heap.size w w' := by
 have e1 : IntKind.u32.wrap (topic : Int) = (topic : Int) := by rw [IntKind.wrap_u32]; omega
 have e2 : IntKind.u32.wrap (seg : Int) = (seg : Int) := by rw [IntKind.wrap_u32]; omega
 have e3 : IntKind.u64.wrap (base : Int) = (base : Int) := by rw [IntKind.wrap_u64]; omega
 have HX := Lib.hid (extN_lt (s := 0) (by decide) (hd1 topic seg base))
 have HT := Lib.hid ht
 have HS := Lib.hid hs
 have HBS := Lib.hid hb
 have HL1 := Lib.hid (hd1_len topic seg base)
 clear ht hs hb
 obtain ⟨l1, hl1⟩ : ∃ l, hd1 topic seg base = l := ⟨_, rfl⟩
 obtain ⟨l2, hl2⟩ : ∃ l, headN topic seg base = l := ⟨_, rfl⟩
 rw [hl2]
 rw [hl1] at HX HL1
 have HL2 : Hid (l2 = l1 ++ be4 (extN 0 l1)) := Lib.hid (by rw [← hl2, headN, hl1])
 have HE1 : Hid (((([] ++ [UInt8.ofNat 173]) ++ be4 topic) ++ be4 seg) ++ be8 base = l1) := Lib.hid hl1
 clear hl1 hl2
 go_enter Tryz.func154, Tryz.ntmps154
 go_wp2_with fail
 refine (writer_new w.heap.size w (Nat.le_refl _)).mono ?_
 rintro e w1 ⟨rfl, h1, b1⟩
 have H1 := Lib.hid h1
 have B1 := Lib.hid b1
 clear h1 b1
 go_wp2_with fail
 refine (byte_is _ _ [] 173 (by decide) (by simp) w1 H1.out).mono ?_
 rintro e w2 ⟨rfl, h2, b2⟩
 have H2 := Lib.hid h2
 have B2 : Hid (Below w.heap.size w w2) := B1.out.trans b2
 clear h2 b2
 go_wp2_with fail
 refine (u32_any _ _ _ topic HT.out (by simp) w2 H2.out).mono ?_
 rintro e w3 ⟨rfl, h3, b3⟩
 have H3 := Lib.hid h3
 have B3 : Hid (Below w.heap.size w w3) := B2.out.trans b3
 clear h3 b3
 go_wp2_with fail
 refine (u32_any _ _ _ seg HS.out (by simp [be4_len]) w3 H3.out).mono ?_
 rintro e w4 ⟨rfl, h4, b4⟩
 have H4 := Lib.hid h4
 have B4 : Hid (Below w.heap.size w w4) := B3.out.trans b4
 clear h4 b4
 go_wp2_with fail
 refine (u64_any _ _ _ base (by have := HBS.out; omega) (by simp [be4_len]) w4 H4.out).mono ?_
 rintro e w5 ⟨rfl, h5, b5⟩
 rw [HE1.out] at h5
 have H5 := Lib.hid h5
 have B5 : Hid (Below w.heap.size w w5) := B4.out.trans b5
 clear h5 b5
 go_wp2_with fail
 refine (bytes_any _ _ l1 (by have := HL1.out; omega) w5 H5.out w5.heap.size (Nat.le_refl _)).mono ?_
 rintro e w6 ⟨A6, c6, rfl, o6, b6⟩
 have O6 := Lib.hid o6
 have B6 : Hid (Below w.heap.size w w6) := B5.out.trans (b6.mono B5.out.size)
 have H6 : Hid (Wr w6 w.heap.size w.heap.size l1) := H5.out.below b6
 clear o6 b6
 go_wp2_with fail
 refine (sum_any l1 (by have := HL1.out; omega) A6 c6 w6 (RB.of_own O6.out)).mono ?_
 rintro e w7 ⟨rfl, b7⟩
 have B7 : Hid (Below w.heap.size w w7) := B6.out.trans (b7.mono B6.out.size)
 have H7 : Hid (Wr w7 w.heap.size w.heap.size l1) := H6.out.below b7
 clear b7
 go_wp2_with fail
 refine (u32_any _ _ l1 _ HX.out (by have := HL1.out; omega) w7 H7.out).mono ?_
 rintro e w8 ⟨rfl, h8, b8⟩
 rw [← HL2.out] at h8
 have H8 := Lib.hid h8
 have B8 : Hid (Below w.heap.size w w8) := B7.out.trans b8
 clear h8 b8
 go_wp2_with fail
 refine (bytes_any _ _ l2 (by have := HL1.out; rw [HL2.out, List.length_append, be4_len]; omega) w8 H8.out w.heap.size B8.out.size).mono ?_
 rintro e w9 ⟨A9, c9, rfl, o9, b9⟩
 have O9 := Lib.hid o9
 have B9 : Hid (Below w.heap.size w w9) := B8.out.trans (b9.mono B8.out.size)
 clear o9 b9
 go_wp2_with fail
 go_ret
 exact ⟨A9, c9, rfl, O9.out, B9.out⟩
theorem number_any (w : World) (n : Int) : Calls Tryz.prog 67 #[.int .i64 n] w fun e w' => e = .returned (.bool (decide (0 ≤ n) && decide (n < 1073741824))) ∧ w' = w := by
 go_enter Tryz.func67, Tryz.ntmps67
 by_cases h1 : 0 ≤ n
 · have g1 : decide (0 ≤ n) = true := decide_eq_true h1
   go_wp2_with fail
   go_ret
   simp [h1]
 · have g1 : decide (0 ≤ n) = false := decide_eq_false h1
   go_wp2_with fail
   go_ret
   exact ⟨by simp only [g1, Bool.false_and]; rfl, rfl⟩
structure Inf where
 topic : Int
 seg : Int
 base : Int
 size : Int
 count : Nat
 last : Int
 sealed : Bool
def tl1 (count last : Nat) : List UInt8 := (([] ++ [UInt8.ofNat 174]) ++ be4 count) ++ be8 last
def tailN (sum count last : Nat) : List UInt8 := tl1 count last ++ be4 (extN sum (tl1 count last))
theorem tl1_len (c l : Nat) : (tl1 c l).length = 13 := by simp [tl1, be8_length, be4_len]
def u64of (x : Int) : Nat := (x % 18446744073709551616).toNat
theorem u64of_lt (x : Int) : u64of x < 18446744073709551616 := by unfold u64of; omega
theorem u64of_wrap (x : Int) : IntKind.u64.wrap x = (u64of x : Int) := by rw [IntKind.wrap_u64]; unfold u64of; omega
def Inf.cells (i : Inf) : Array Value := #[.int .i64 i.topic, .int .i64 i.seg, .int .i64 i.base, .int .i64 i.size, .int .i64 (i.count : Int), .int .i64 i.last, .bool i.sealed]
set_option maxHeartbeats 4000000 in
theorem tail_any (w : World) (sum : Nat) (i : Inf) (hsum : sum < 4294967296) (hct : i.count < 4294967296) :
   Calls Tryz.prog 77 #[.int .u32 (sum : Int), .agg i.cells] w fun e w' => ∃ A c, e = .returned (.slice A (tailN sum i.count (u64of i.last)).length c) ∧ w'.ownsRow w.heap.size 5 1 (.slice A (tailN sum i.count (u64of i.last)).length c) (tailN sum i.count (u64of i.last)).length (bc (tailN sum i.count (u64of i.last))) ∧ Below w.heap.size w w' := by
 obtain ⟨topic, seg, base, size, count, last, sealed⟩ := i
 dsimp only at hct
 have e1 : IntKind.u32.wrap (count : Int) = (count : Int) := by rw [IntKind.wrap_u32]; omega
 have e2 := u64of_wrap last
 have hlt := u64of_lt last
 dsimp only [Inf.cells]
 generalize u64of last = lw at e2 hlt ⊢
 have HX := Lib.hid (extN_lt hsum (tl1 count lw))
 have HCT := Lib.hid hct
 have HLT := Lib.hid hlt
 have HSM := Lib.hid hsum
 have HL1 := Lib.hid (tl1_len count lw)
 clear hct hlt hsum
 obtain ⟨l1, hl1⟩ : ∃ l, tl1 count lw = l := ⟨_, rfl⟩
 obtain ⟨l2, hl2⟩ : ∃ l, tailN sum count lw = l := ⟨_, rfl⟩
 rw [hl2]
 rw [hl1] at HX HL1
 have HL2 : Hid (l2 = l1 ++ be4 (extN sum l1)) := Lib.hid (by rw [← hl2, tailN, hl1])
 have HE1 : Hid ((([] ++ [UInt8.ofNat 174]) ++ be4 count) ++ be8 lw = l1) := Lib.hid hl1
 clear hl1 hl2
 go_enter Tryz.func77, Tryz.ntmps77
 go_wp2_with fail
 have B0 : Hid (Below w.heap.size w (w.alloc (.cells #[.int .i64 topic, .int .i64 seg, .int .i64 base, .int .i64 size, .int .i64 (count : Int), .int .i64 last, .bool sealed] 79))) := Lib.hid ((Below.refl _ _).alloc (Nat.le_refl _) _)
 have K0 : Hid (Blk (w.alloc (.cells #[.int .i64 topic, .int .i64 seg, .int .i64 base, .int .i64 size, .int .i64 (count : Int), .int .i64 last, .bool sealed] 79)) w.heap.size 79 #[.int .i64 topic, .int .i64 seg, .int .i64 base, .int .i64 size, .int .i64 (count : Int), .int .i64 last, .bool sealed]) := Lib.hid (Blk.new w _ _)
 have hsz : w.heap.size < (w.alloc (.cells #[.int .i64 topic, .int .i64 seg, .int .i64 base, .int .i64 size, .int .i64 (count : Int), .int .i64 last, .bool sealed] 79)).heap.size := by simp
 generalize World.alloc w _ = w0 at B0 K0 hsz ⊢
 refine (writer_new w0.heap.size w0 (Nat.le_refl _)).mono ?_
 rintro e w1 ⟨rfl, h1, b1⟩
 have H1 := Lib.hid h1
 have B1 := Lib.hid b1
 clear h1 b1
 go_wp2_with fail
 refine (byte_is _ _ [] 174 (by decide) (by simp) w1 H1.out).mono ?_
 rintro e w2 ⟨rfl, h2, b2⟩
 have H2 := Lib.hid h2
 have B2 : Hid (Below w0.heap.size w0 w2) := B1.out.trans b2
 have k4 : w2.cell? ⟨w.heap.size, 4, none⟩ = some (.int .i64 (count : Int)) := ((K0.out.below B2.out hsz).cell 4).trans rfl
 clear h2 b2
 go_wp2_with fail
 refine (u32_any _ _ _ count HCT.out (by simp) w2 H2.out).mono ?_
 rintro e w3 ⟨rfl, h3, b3⟩
 have H3 := Lib.hid h3
 have B3 : Hid (Below w0.heap.size w0 w3) := B2.out.trans b3
 have k5 : w3.cell? ⟨w.heap.size, 5, none⟩ = some (.int .i64 last) := ((K0.out.below B3.out hsz).cell 5).trans rfl
 clear h3 b3 k4
 go_wp2_with fail
 refine (u64_any _ _ _ lw HLT.out (by simp [be4_len]) w3 H3.out).mono ?_
 rintro e w5 ⟨rfl, h5, b5⟩
 rw [HE1.out] at h5
 have H5 := Lib.hid h5
 have B5 : Hid (Below w0.heap.size w0 w5) := B3.out.trans b5
 clear h5 b5 k5
 go_wp2_with fail
 refine (bytes_any _ _ l1 (by have := HL1.out; omega) w5 H5.out w5.heap.size (Nat.le_refl _)).mono ?_
 rintro e w6 ⟨A6, c6, rfl, o6, b6⟩
 have O6 := Lib.hid o6
 have B6 : Hid (Below w0.heap.size w0 w6) := B5.out.trans (b6.mono B5.out.size)
 have H6 : Hid (Wr w6 w0.heap.size w0.heap.size l1) := H5.out.below b6
 clear o6 b6
 go_wp2_with fail
 refine (extend_any sum HSM.out l1 (by have := HL1.out; omega) A6 c6 w6 (RB.of_own O6.out)).mono ?_
 rintro e w7 ⟨rfl, b7⟩
 have B7 : Hid (Below w0.heap.size w0 w7) := B6.out.trans (b7.mono B6.out.size)
 have H7 : Hid (Wr w7 w0.heap.size w0.heap.size l1) := H6.out.below b7
 clear b7
 go_wp2_with fail
 refine (u32_any _ _ l1 _ HX.out (by have := HL1.out; omega) w7 H7.out).mono ?_
 rintro e w8 ⟨rfl, h8, b8⟩
 rw [← HL2.out] at h8
 have H8 := Lib.hid h8
 have B8 : Hid (Below w0.heap.size w0 w8) := B7.out.trans b8
 clear h8 b8
 go_wp2_with fail
 refine (bytes_any _ _ l2 (by have := HL1.out; rw [HL2.out, List.length_append, be4_len]; omega) w8 H8.out w8.heap.size (Nat.le_refl _)).mono ?_
 rintro e w9 ⟨A9, c9, rfl, o9, b9⟩
 have O9 := Lib.hid o9
 have B9 : Hid (Below w.heap.size w w9) := B0.out.trans ((B8.out.mono B0.out.size).trans (b9.mono (Nat.le_trans B0.out.size B8.out.size)))
 have hle : Hid (w.heap.size ≤ w8.heap.size) := Lib.hid (Nat.le_trans B0.out.size B8.out.size)
 clear o9 b9
 go_wp2_with fail
 go_ret
 exact ⟨A9, c9, rfl, own_less O9.out hle.out, B9.out⟩
end Go.Proofs.YtendlmdmbkcdnaaGreatDoor.sg
namespace Go.Proofs.YtendlmdmbkcdnaaGreatDoor.sg
open Go.RowKit oc rc
open Go.Lib (itoa)
set_option maxRecDepth 100000
def Tab (w : World) : Prop := Lib.TabIs Tryz.prog w "internal/strconv.uint64pow10" .u64 Lib.pow10Tab
theorem tab_below {w w' : World} (h : Tab w) (hb : Below w.heap.size w w') : Tab w' := by
 have hv : w.var? Tryz.prog "internal/strconv.uint64pow10" = some ((Lib.pow10Tab.map fun z => Value.int .u64 z).toArray) := h
 have hlt : 2 < w.heap.size := by
   unfold World.var? at hv
   rw [show Tryz.prog.globalNamed "internal/strconv.uint64pow10" = some 2 by kernel_rfl] at hv
   rcases Nat.lt_or_ge 2 w.heap.size with h1 | h1
   · exact h1
   · simp [Array.getElem?_eq_none h1] at hv
 exact var?_below hb (by kernel_rfl) hlt hv
def Sb (l : List UInt8) : ByteArray := ⟨l.toArray⟩
theorem itoa_any (n : Int) (h0 : -9223372036854775808 ≤ n) (h1 : n ≤ 9223372036854775807) (w : World) (ht : Tab w) :
   Calls Tryz.prog 68 #[.int .i64 n] w fun e w' => e = .returned (.string (Sb (itoa n))) ∧ Below w.heap.size w w' := by
 refine (Tryz.strconv_Itoa n h0 h1 w ht).mono ?_
 rintro e w1 ⟨rfl, k, os, rfl⟩
 exact ⟨rfl, Lib.below_grow _ _ (Nat.le_refl _) k os⟩
theorem sb_app (a b : List UInt8) : Sb (a ++ b) = Sb a ++ Sb b := by
 apply ByteArray.ext
 simp [Sb, ByteArray.data_append]
theorem sb_len (n : Int) (h0 : -9223372036854775808 ≤ n) (h1 : n ≤ 9223372036854775807) : (Sb (itoa n)).size ≤ 21 := by
 have := Lib.itoa_length_le n h0 h1
 simpa [Sb, ByteArray.size] using this
def okNum (n : Int) : Bool := decide (0 ≤ n) && decide (n < 1073741824)
def nameN (topic seg : Int) : List UInt8 := [116] ++ itoa topic ++ [46] ++ itoa seg ++ [46, 115, 101, 103]
set_option maxHeartbeats 2000000 in
theorem name_any (w : World) (topic seg : Int) (h1 : okNum topic = true) (h2 : okNum seg = true) (ht : Tab w) :
   Calls Tryz.prog 24 #[.int .i64 topic, .int .i64 seg] w fun e w' => e = .returned (.string (Sb (nameN topic seg))) ∧ Below w.heap.size w w' := by
 have hn1 := fun w => number_any w topic
 have hn2 := fun w => number_any w seg
 unfold okNum at h1 h2
 rw [h1] at hn1
 rw [h2] at hn2
 simp only [Bool.and_eq_true, decide_eq_true_eq] at h1 h2
 have z1 := sb_len topic (by omega) (by omega)
 have z2 := sb_len seg (by omega) (by omega)
 have y1 : ¬ 9223372036854775807 < 1 + (Sb (itoa topic)).size := by omega
 have y2 : ¬ 9223372036854775807 < 1 + (Sb (itoa topic)).size + 1 := by omega
 have y3 : ¬ 9223372036854775807 < 1 + (Sb (itoa topic)).size + 1 + (Sb (itoa seg)).size := by omega
 have y4 : ¬ 9223372036854775807 < 1 + (Sb (itoa topic)).size + 1 + (Sb (itoa seg)).size + 4 := by omega
 have HT := Lib.hid ht
 have HN := Lib.hid h1
 have HM := Lib.hid h2
 clear ht h1 h2
 go_enter Tryz.func24, Tryz.ntmps24
 go_wp2_with (first
   | (go_at_call 67; (first | with_reducible refine (hn1 _).mono ?_ | with_reducible refine (hn2 _).mono ?_); rintro e w1 ⟨rfl, rfl⟩)
   | fail)
 refine (itoa_any topic (by have := HN.out; omega) (by have := HN.out; omega) w1 HT.out).mono ?_
 rintro e w2 ⟨rfl, hb2⟩
 have HB2 := Lib.hid hb2
 have HT2 := Lib.hid (tab_below HT.out hb2)
 clear hb2
 go_wp2_with fail
 refine (itoa_any seg (by have := HM.out; omega) (by have := HM.out; omega) w2 HT2.out).mono ?_
 rintro e w3 ⟨rfl, hb3⟩
 have HB3 : Hid (Below w1.heap.size w1 w3) := Lib.hid (HB2.out.trans (hb3.mono HB2.out.size))
 clear hb3
 go_wp2_with fail
 go_ret
 refine ⟨?_, HB3.out⟩
 rw [nameN, sb_app, sb_app, sb_app, sb_app]
 rfl
end Go.Proofs.YtendlmdmbkcdnaaGreatDoor.sg
namespace Go.Proofs.YtendlmdmbkcdnaaGreatDoor.sg
open Go.RowKit oc rc
set_option maxRecDepth 100000
theorem number_is (n : Int) (b : Bool) (h : okNum n = b) (w : World) : Calls Tryz.prog 67 #[.int .i64 n] w fun e w' => e = .returned (.bool b) ∧ w' = w := by
 rw [← h]
 exact number_any w n
set_option maxHeartbeats 2000000 in
theorem refused_ok (w : World) (d : Nat) (topic seg limit : Int) (h1 : okNum topic = true) (h2 : okNum seg = true) (h3 : 256 ≤ limit) (h4 : limit ≤ 65536) :
   Calls Tryz.prog 152 #[.pointer (some ⟨d, 0, none⟩), .int .i64 topic, .int .i64 seg, .int .i64 limit] w fun e w' => e = .returned (.int .i64 0) ∧ w' = w := by
 have n1 := number_is topic true h1
 have n2 := number_is seg true h2
 have g1 : decide (limit < 256) = false := decide_eq_false (by omega)
 have g2 : decide (65536 < limit) = false := decide_eq_false (by omega)
 clear h1 h2
 go_enter Tryz.func152, Tryz.ntmps152
 go_wp2_with (first
   | (go_at_call 67; (first | with_reducible refine (n1 _).mono ?_ | with_reducible refine (n2 _).mono ?_); rintro e w1 ⟨rfl, rfl⟩)
   | fail)
 go_ret
 exact ⟨rfl, rfl⟩
end Go.Proofs.YtendlmdmbkcdnaaGreatDoor.sg
namespace Go.Proofs.YtendlmdmbkcdnaaGreatDoor.oc
open Go.RowKit Go.Maps Go.WideMaps
set_option maxRecDepth 100000
theorem made_at {w : World} {P : Program} {k : TypeId} {R : Value → Option (DataW Unit × List MemPlace)} {n : Nat} (h : w.heap.size = n) : (w.alloc (.map #[] 0)).ownsMap P k R n 0 (.map []) := h ▸ World.ownsMap_made w P k R
def disk0 (q : Int) : DiskS := ⟨.map [], .map [], [], q, 0, -1, false, 0, fun _ => none, 0⟩
def ow0 (b : Nat) : Nat → Tag := fun i => if i = b then .disk else if i = b + 1 then .mseen else if i = b + 1 + 1 then .msafe else .other
theorem fresh_any (q : Int) (w : World) : Calls Tryz.prog 35 #[.int .i64 q] w fun e w' => e = .returned (.pointer (some ⟨w.heap.size, 0, none⟩)) ∧ DiskAt w' (ow0 w.heap.size) w.heap.size (disk0 q) ∧ Below w.heap.size w w' := by
 have hmm := @run_makeMap Tryz.prog
 go_enter Tryz.func35, Tryz.ntmps35
 go_wp2
 go_ret
 refine ⟨rfl, ⟨w.heap.size + 1, w.heap.size + 1 + 1, .slice none 0 0, [], ?_, by simp [ow0], ⟨?_, by simp [ow0]⟩, ⟨?_, by simp [ow0]; omega⟩, ⟨World.ownsRow_nil _ _ _ _, fun g e => by simp [Value.ownBlock] at e⟩, fun i ch e => by simp [disk0] at e, fun f F e => by simp [disk0] at e, fun i hi => ?_, Nat.le_refl _, Nat.zero_le _⟩, ?_⟩
 · exact ((Blk.new w _ _).alloc _).alloc _
 · exact (made_at (by simp)).alloc _
 · exact made_at (by simp)
 · simp at hi
   simp only [ow0]
   rw [if_neg (by omega), if_neg (by omega), if_neg (by omega)]
 · exact (((Below.refl _ _).alloc (Nat.le_refl _) _).alloc (by simp) _).alloc (by simp; omega) _
theorem newdisk_any (q : Int) (h0 : 0 ≤ q) (h1 : q ≤ 1073741824) (w : World) : Calls Tryz.prog 7 #[.int .i64 q] w fun e w' => e = .returned (.tuple #[.pointer (some ⟨w.heap.size, 0, none⟩), .int .i64 0]) ∧ DiskAt w' (ow0 w.heap.size) w.heap.size (disk0 q) ∧ Below w.heap.size w w' := by
 have hq : decide (q ≤ 1073741824) = true := by simp; omega
 go_enter Tryz.func7, Tryz.ntmps7
 go_wp2_with (first | (go_at_call 35; refine (fresh_any _ _).mono ?_; rintro e w1 ⟨rfl, hE, hb⟩) | go_in)
 go_ret2
 exact ⟨rfl, hE, hb⟩
set_option maxHeartbeats 4000000 in
theorem append_full (w : World) (ow : Nat → Tag) (d f : Nat) (S : DiskS) (h : DiskAt w ow d S) (hd : S.dead = false) (s : ByteArray) (hs : GoodN s) (he : EntF S.dir s f)
   (A : Option Addr) (c : Nat) (b : List UInt8) (hu0 : 0 ≤ S.used) (hu1 : S.used ≤ S.quota) (hn : S.quota < S.used + b.length) (hq : S.quota ≤ 1073741824) :
   Calls Tryz.prog 107 #[.pointer (some ⟨d, 0, none⟩), .string s, .slice A b.length c] w fun e w' => e = .returned (.int .i64 33) ∧ Below w.heap.size w w' := by
 have HAT := Lib.hid (at_yes w ow d f S h hd s hs he)
 obtain ⟨ms, mf, vc, dvals, hV⟩ := h
 have HV := Lib.hid hV
 have hwr := q_sub S.quota S.used hu0 hu1 hq
 have hg : decide (S.quota - S.used < (b.length : Int)) = true := by simp; omega
 have hp : decide ((0 : Int) < (b.length : Int)) = true := by simp; omega
 have hb0 : 0 < b.length := by omega
 clear hV hd hs he
 go_enter Tryz.func107, Tryz.ntmps107
 go_wp2_with fail
 refine HAT.out.mono ?_
 rintro e w1 ⟨rfl, hb1⟩
 have HV1 := Lib.hid (HV.out.below hb1)
 have HB1 := Lib.hid hb1
 have c3 : w1.cell? ⟨d, 3, none⟩ = some (.int .i64 S.quota) := (HV1.out.1.cell 3).trans rfl
 have c4 : w1.cell? ⟨d, 4, none⟩ = some (.int .i64 S.used) := (HV1.out.1.cell 4).trans rfl
 clear hb1 HAT
 go_wp2_with fail
 go_quiet (fail)
 clear hwr hg hp
 go_wp2_with fail
 go_ret
 exact ⟨rfl, HB1.out.trans (below_drewN (Below.refl _ _) nq)⟩
end Go.Proofs.YtendlmdmbkcdnaaGreatDoor.oc
namespace Go.Proofs.YtendlmdmbkcdnaaGreatDoor.dd
open Go.RowKit Go.Maps Go.WideMaps oc
set_option maxRecDepth 100000
def prodD (a b c : Int) : DataW Unit := .agg [.lit (.int .i64 a), .lit (.int .i64 b), .lit (.int .i64 c)]
def prodR : Value → Option (DataW Unit × List MemPlace)
 | .agg ⟨[.int .i64 a, .int .i64 b, .int .i64 c]⟩ => some (prodD a b c, [])
 | _ => none
theorem prodR_of {v : Value} {a b c : Int} {ps : List MemPlace} (h : prodR v = some (prodD a b c, ps)) : v = .agg #[.int .i64 a, .int .i64 b, .int .i64 c] := by
 unfold prodR at h
 split at h
 · simp only [prodD, Option.some.injEq, Prod.mk.injEq, DataW.agg.injEq, List.cons.injEq, DataW.lit.injEq, Lit.int.injEq, true_and, and_true] at h
   obtain ⟨⟨rfl, rfl, rfl⟩, _⟩ := h
   rfl
 · cases h
def key (n : Int) : Lit := .int .i64 n
theorem lawI : Keyed Tryz.prog 2 := int_keyed Tryz.underlying2
theorem keyI (x : Int) (h0 : -9223372036854775808 ≤ x) (h1 : x ≤ 9223372036854775807) : keyOf Tryz.prog 2 (.int .i64 x) = some (.int .i64 x) := keyOf_int_mk Tryz.underlying2 (by simp [Lit.wf, show IntKind.i64.min = -9223372036854775808 from rfl, show IntKind.i64.max = 9223372036854775807 from rfl]; omega)
theorem zeroP (w : World) : (zeroValue 208).run Tryz.prog w = .ok (.agg #[.int .i64 0, .int .i64 0, .int .i64 0]) w := by kernel_rfl
def Knows (D : DataW Unit) (pid : Int) (known : Bool) (a s o : Int) : Prop := D.atKey (key pid) (prodD 0 0 0) = prodD a s o ∧ Maps.has D (key pid) = known
theorem offset_any (w : World) (n : Int) : Calls Tryz.prog 111 #[.int .i64 n] w fun e w' => e = .returned (.bool (decide (0 ≤ n) && decide (n < 1099511627776))) ∧ w' = w := by
 go_enter Tryz.func111, Tryz.ntmps111
 by_cases h1 : 0 ≤ n
 · have g1 : decide (0 ≤ n) = true := decide_eq_true h1
   go_wp2_with fail
   go_ret
   simp [h1]
 · have g1 : decide (0 ≤ n) = false := decide_eq_false h1
   go_wp2_with fail
   go_ret
   exact ⟨by simp only [g1, Bool.false_and]; rfl, rfl⟩
def goodP (p s : Int) : Bool := decide (1 ≤ p) && (decide (p < 4294967296) && (decide (1 ≤ s) && decide (s < 1099511627776)))
theorem producer_any (w : World) (p s : Int) : Calls Tryz.prog 106 #[.int .i64 p, .int .i64 s] w fun e w' => e = .returned (.bool (goodP p s)) ∧ w' = w := by
 go_enter Tryz.func106, Tryz.ntmps106
 rcases h1 : decide (1 ≤ p) with _ | _ <;> rcases h2 : decide (p < 4294967296) with _ | _ <;> rcases h3 : decide (1 ≤ s) with _ | _ <;>
   (go_wp2_with fail
    go_ret
    refine ⟨?_, rfl⟩
    simp only [goodP, h1, h2, h3, Bool.false_and, Bool.true_and, Bool.and_false]
    rfl)
theorem look_p {W : World} {m n : Nat} {D : DataW Unit} (h : W.ownsMap Tryz.prog 2 prodR m n D) {pid a s o : Int} {known : Bool} (h0 : -9223372036854775808 ≤ pid) (h1 : pid ≤ 9223372036854775807) (he : Knows D pid known a s o) : (Instr.lookup 210 (.map (some m)) (.int .i64 pid) true).run Tryz.prog W = .ok (.tuple #[.agg #[.int .i64 a, .int .i64 s, .int .i64 o], .bool known]) W := by
 obtain ⟨v, ps, hr, hv⟩ := h.look_ok lawI Tryz.underlying210 (zeroP W) (zd := prodD 0 0 0) (zp := []) rfl (kl := key pid) (key := .int .i64 pid) (keyI pid h0 h1)
 rw [he.1] at hv
 rw [he.2] at hr
 obtain rfl := prodR_of hv
 exact hr
def TabAt (w : World) (t m n : Nat) (D : DataW Unit) : Prop := Blk w t 212 #[.map (some m)] ∧ w.ownsMap Tryz.prog 2 prodR m n D
def judgeN (known : Bool) (s o seq : Int) (size : Int) : Int × Int :=
 if known = true ∧ seq = s then (2, o) else if known = true ∧ seq < s then (3, 0) else if seq ≠ s + 1 then (4, 0) else if known = false ∧ 64 ≤ size then (5, 0) else (1, 0)
theorem producer_is (p s : Int) (b : Bool) (h : goodP p s = b) (w : World) : Calls Tryz.prog 106 #[.int .i64 p, .int .i64 s] w fun e w' => e = .returned (.bool b) ∧ w' = w := by
 rw [← h]
 exact producer_any w p s
theorem judge_free (w : World) (t : Nat) : Calls Tryz.prog 48 #[.pointer (some ⟨t, 0, none⟩), .int .i64 0, .int .i64 0] w fun e w' => e = .returned (.tuple #[.int .i64 0, .int .i64 0]) ∧ w' = w := by
 go_enter Tryz.func48, Tryz.ntmps48
 go_wp2_with fail
 go_ret2
 exact ⟨rfl, rfl⟩
set_option maxHeartbeats 4000000 in
theorem judge_any (w : World) (t m n : Nat) (D : DataW Unit) (h : TabAt w t m n D) (pid seq a s o : Int) (known : Bool) (hp : goodP pid seq = true) (hk : Knows D pid known a s o) (hs : 0 ≤ s ∧ s < 1099511627776) :
   Calls Tryz.prog 48 #[.pointer (some ⟨t, 0, none⟩), .int .i64 pid, .int .i64 seq] w fun e w' => e = .returned (.tuple #[.int .i64 (judgeN known s o seq (Maps.size D)).1, .int .i64 (judgeN known s o seq (Maps.size D)).2]) ∧ Below w.heap.size w w' := by
 have hp2 := hp
 simp only [goodP, Bool.and_eq_true, decide_eq_true_eq] at hp2
 have hlk := look_p h.2 (pid := pid) (by omega) (by omega) hk
 have hln := fun x => (h.2.alloc x).len Tryz.underlying210
 have c0 : w.cell? ⟨t, 0, none⟩ = some (.map (some m)) := (h.1.cell 0).trans rfl
 have c1 : ∀ x, (w.alloc x).cell? ⟨t, 0, none⟩ = some (.map (some m)) := fun x => ((h.1.alloc x).cell 0).trans rfl
 have n1 := producer_is pid seq true hp
 have g0 : (pid == 0) = false := by simp; omega
 have e1 : IntKind.i64.wrap (s + 1) = s + 1 := by rw [IntKind.wrap_i64]; omega
 clear h hp hk
 go_enter Tryz.func48, Tryz.ntmps48
 have HBA : Hid (∀ x, Below w.heap.size w (w.alloc x)) := Lib.hid (fun x => (Below.refl _ _).alloc (Nat.le_refl _) x)
 by_cases hq : seq = s
 · subst hq
   cases known with
   | true =>
     have gq : (seq == seq) = true := by simp
     have HJ : Hid (judgeN true seq o seq (Maps.size D) = (2, o)) := Lib.hid (by unfold judgeN; rw [if_pos ⟨rfl, rfl⟩])
     go_wp2_with (first
       | (go_at_call 106; refine (n1 _).mono ?_; rintro e w1 ⟨rfl, rfl⟩)
       | fail)
     go_region_with (fail)
     all_goals
       go_wp2_with fail
       go_ret2
       exact ⟨by rw [HJ.out]; rfl, Below.drew (HBA.out _)⟩
   | false =>
     have gq : (seq != seq + 1) = true := by simp; omega
     go_wp2_with (first
       | (go_at_call 106; refine (n1 _).mono ?_; rintro e w1 ⟨rfl, rfl⟩)
       | fail)
     go_ret2
     have h3 : ¬ seq = seq + 1 := by omega
     exact ⟨by simp [judgeN, h3], HBA.out _⟩
 · have gq : (seq == s) = false := by simpa using hq
   by_cases hlt : seq < s ∧ known = true
   · obtain ⟨hlt, rfl⟩ := hlt
     have gl : decide (seq < s) = true := decide_eq_true hlt
     go_wp2_with (first
       | (go_at_call 106; refine (n1 _).mono ?_; rintro e w1 ⟨rfl, rfl⟩)
       | fail)
     go_ret2
     exact ⟨by simp [judgeN, hq, hlt], HBA.out _⟩
   · have hno : known = true → ¬ seq < s := fun hk hl => hlt ⟨hl, hk⟩
     have gl : known = true → decide (seq < s) = false := fun hk => decide_eq_false (hno hk)
     by_cases hg : seq = s + 1
     · subst hg
       have gg : ((s + 1) != s + 1) = false := by simp
       cases known with
       | true =>
         have gl2 : decide (s + 1 < s) = false := gl rfl
         have HJ : Hid (judgeN true s o (s + 1) (Maps.size D) = (1, 0)) := Lib.hid (by unfold judgeN; rw [if_neg (fun h => absurd h.2 (by omega)), if_neg (fun h => absurd h.2 (by omega)), if_neg (fun h => h rfl), if_neg (fun h => absurd h.1 (by decide))])
         go_wp2_with (first
           | (go_at_call 106; refine (n1 _).mono ?_; rintro e w1 ⟨rfl, rfl⟩)
           | fail)
         go_ret2
         exact ⟨by rw [HJ.out]; rfl, HBA.out _⟩
       | false =>
         by_cases hf : (64 : Int) ≤ (Maps.size D : Int)
         · have gf : decide ((64 : Int) ≤ (Maps.size D : Int)) = true := decide_eq_true hf
           have HJ : Hid (judgeN false s o (s + 1) (Maps.size D) = (5, 0)) := Lib.hid (by unfold judgeN; rw [if_neg (fun h => absurd h.1 (by decide)), if_neg (fun h => absurd h.1 (by decide)), if_neg (fun h => h rfl), if_pos ⟨rfl, hf⟩])
           go_wp2_with (first
             | (go_at_call 106; refine (n1 _).mono ?_; rintro e w1 ⟨rfl, rfl⟩)
             | fail)
           go_ret2
           exact ⟨by rw [HJ.out]; rfl, HBA.out _⟩
         · have gf : decide ((64 : Int) ≤ (Maps.size D : Int)) = false := decide_eq_false hf
           have HJ : Hid (judgeN false s o (s + 1) (Maps.size D) = (1, 0)) := Lib.hid (by unfold judgeN; rw [if_neg (fun h => absurd h.1 (by decide)), if_neg (fun h => absurd h.1 (by decide)), if_neg (fun h => h rfl), if_neg (fun h => hf h.2)])
           go_wp2_with (first
             | (go_at_call 106; refine (n1 _).mono ?_; rintro e w1 ⟨rfl, rfl⟩)
             | fail)
           go_ret2
           exact ⟨by rw [HJ.out]; rfl, HBA.out _⟩
     · have gg : (seq != s + 1) = true := by simpa using hg
       cases known with
       | true =>
         have gl2 : decide (seq < s) = false := gl rfl
         have h5 := hno rfl
         have HJ : Hid (judgeN true s o seq (Maps.size D) = (4, 0)) := Lib.hid (by unfold judgeN; rw [if_neg (fun h => hq h.2), if_neg (fun h => h5 h.2), if_pos hg])
         go_wp2_with (first
           | (go_at_call 106; refine (n1 _).mono ?_; rintro e w1 ⟨rfl, rfl⟩)
           | fail)
         go_ret2
         exact ⟨by rw [HJ.out]; rfl, HBA.out _⟩
       | false =>
         go_wp2_with (first
           | (go_at_call 106; refine (n1 _).mono ?_; rintro e w1 ⟨rfl, rfl⟩)
           | fail)
         go_ret2
         exact ⟨by simp [judgeN, hg], HBA.out _⟩
theorem judge_cases (known : Bool) (s o seq size : Int) : (judgeN known s o seq size).1 = 1 ∨ (judgeN known s o seq size).1 = 2 ∨ (judgeN known s o seq size).1 = 3 ∨ (judgeN known s o seq size).1 = 4 ∨ (judgeN known s o seq size).1 = 5 := by
 unfold judgeN
 split
 · simp
 · split
   · simp
   · split
     · simp
     · split <;> simp
def refN (v : Int) : Int := if v = 3 then 91 else if v = 4 then 90 else if v = 5 then 92 else 0
set_option maxHeartbeats 4000000 in
theorem refuse_any (w : World) (t m n : Nat) (D : DataW Unit) (h : TabAt w t m n D) (pid seq a s o : Int) (known : Bool) (hp : goodP pid seq = true) (hk : Knows D pid known a s o) (hs : 0 ≤ s ∧ s < 1099511627776) :
   Calls Tryz.prog 49 #[.pointer (some ⟨t, 0, none⟩), .int .i64 pid, .int .i64 seq] w fun e w' => e = .returned (.int .i64 (refN (judgeN known s o seq (Maps.size D)).1)) ∧ Below w.heap.size w w' := by
 have HJ := Lib.hid (judge_any w t m n D h pid seq a s o known hp hk hs)
 have hc := judge_cases known s o seq (Maps.size D)
 clear h hp hk hs
 generalize judgeN known s o seq (Maps.size D) = v at HJ hc
 obtain ⟨v, y⟩ := v
 dsimp only at HJ hc
 go_enter Tryz.func49, Tryz.ntmps49
 rcases hc with rfl | rfl | rfl | rfl | rfl
 all_goals
   go_wp2_with (first | (go_at_call 48; refine HJ.out.mono ?_; rintro e w1 ⟨rfl, hb1⟩; have HB1 := Lib.hid hb1; clear hb1) | fail)
   go_ret
   exact ⟨rfl, HB1.out.trans ((Below.refl _ _).alloc (by exact Nat.le_refl _) _ |>.mono HB1.out.size)⟩
theorem refuse_free (w : World) (t : Nat) : Calls Tryz.prog 49 #[.pointer (some ⟨t, 0, none⟩), .int .i64 0, .int .i64 0] w fun e w' => e = .returned (.int .i64 0) ∧ Below w.heap.size w w' := by
 go_enter Tryz.func49, Tryz.ntmps49
 go_wp2_with (first | (go_at_call 48; refine (judge_free w t).mono ?_; rintro e w1 ⟨rfl, rfl⟩) | fail)
 go_ret
 exact ⟨rfl, (Below.refl _ _).alloc (Nat.le_refl _) _⟩
theorem TabAt.below {w w' : World} {t m n : Nat} {D : DataW Unit} (h : TabAt w t m n D) (hb : Below w.heap.size w w') : TabAt w' t m n D :=
 ⟨h.1.below hb h.1.lt, map_keepH h.2 (hb.block m h.2.lt)⟩
set_option maxHeartbeats 4000000 in
theorem note_fresh (w : World) (t m n : Nat) (D : DataW Unit) (h : TabAt w t m n D) (pid seq off a s o : Int) (known : Bool) (hp : goodP pid seq = true) (hk : Knows D pid known a s o) (hs : 0 ≤ s ∧ s < 1099511627776) (hj : (judgeN known s o seq (Maps.size D)).1 = 1) (ho : 0 ≤ off ∧ off < 1099511627776) (hn : n ≤ 1073741824) (hne : t ≠ m) :
   Calls Tryz.prog 52 #[.pointer (some ⟨t, 0, none⟩), .int .i64 pid, .int .i64 seq, .int .i64 off] w fun e w' => e = .returned (.int .i64 0) ∧ TabAt w' t m (n + 1) (D.put (key pid) (prodD pid seq off)) ∧ ∃ W, Below w.heap.size w W ∧ W.grownBy w' (some m) := by
 have hp2 := hp
 simp only [goodP, Bool.and_eq_true, decide_eq_true_eq] at hp2
 have HRF := Lib.hid (refuse_any w t m n D h pid seq a s o known hp hk hs)
 have HJG := Lib.hid (fun w1 (hb : Below w.heap.size w w1) => judge_any w1 t m n D (h.below hb) pid seq a s o known hp hk hs)
 have HT := Lib.hid h
 have hkI := keyI pid (by omega) (by omega)
 have n2 : ∀ w, Calls Tryz.prog 111 #[.int .i64 off] w fun e w' => e = .returned (.bool true) ∧ w' = w := fun w => by
   have := offset_any w off
   rwa [show (decide (0 ≤ off) && decide (off < 1099511627776)) = true by simp [ho.1, ho.2]] at this
 rw [hj] at HRF
 have HRF2 : Hid (Calls Tryz.prog 49 #[.pointer (some ⟨t, 0, none⟩), .int .i64 pid, .int .i64 seq] w fun e w' => e = .returned (.int .i64 0) ∧ Below w.heap.size w w') := HRF
 rcases hv : judgeN known s o seq (Maps.size D) with ⟨v, y⟩
 rw [hv] at HJG hj
 dsimp only at hj
 subst hj
 have HN := Lib.hid hn
 have hnil : ∀ w, (binOp .eql 210 (.map (some m)) (.map none)).run Tryz.prog w = .ok (.bool false) w := fun _ => by kernel_rfl
 clear h hp hk hs HRF hn hv hp2
 go_enter Tryz.func52, Tryz.ntmps52
 go_wp2_with fail
 refine HRF2.out.mono ?_
 rintro e w1 ⟨rfl, hb1⟩
 have HB1 := Lib.hid hb1
 clear hb1
 go_wp2_with fail
 refine (n2 _).mono ?_
 rintro e w2 ⟨rfl, rfl⟩
 go_wp2_with fail
 refine (HJG.out _ HB1.out).mono ?_
 rintro e w3 ⟨rfl, hb3⟩
 have HB3 : Hid (Below w.heap.size w w3) := Lib.hid (HB1.out.trans (hb3.mono HB1.out.size))
 have HT3 := Lib.hid (HT.out.below HB3.out)
 have c0 : w3.cell? ⟨t, 0, none⟩ = some (.map (some m)) := (HT3.out.1.cell 0).trans rfl
 clear hb3
 go_wp2_with (first
   | (at_mapUpdate; go_must (refine wpList_mapUpdate_own _ rfl _ _ _ 210 rfl 2 208 lawI Tryz.underlying210 prodR m n _ rfl HT3.out.2 (by have := HN.out; unfold maxLen; omega) _ _ _ rfl rfl hkI (prodD pid seq off) [] rfl ?_; intro w4 hown4 hgrow4; have HO := Lib.hid hown4; have HG := Lib.hid hgrow4; clear hown4 hgrow4))
   | fail)
 go_ret
 exact ⟨rfl, ⟨HT3.out.1.grown HG.out (fun e => hne (by first | exact Option.some.inj e | exact (Option.some.inj e).symm)), HO.out⟩, w3, HB3.out, HG.out⟩
set_option maxHeartbeats 2000000 in
theorem new_nil (w : World) (c : Nat) : Calls Tryz.prog 94 #[.slice none 0 c] w fun e w' => e = .returned (.tuple #[.pointer (some ⟨w.heap.size + 1, 0, none⟩), .int .i64 0]) ∧ TabAt w' (w.heap.size + 1) w.heap.size 0 (.map []) ∧ Below w.heap.size w w' := by
 have hmm := @run_makeMap Tryz.prog
 go_enter Tryz.func94, Tryz.ntmps94
 go_wp2
 go_loop [15] (fun x => x = .int .i64 0) (fun _ => 0)
 case atStart => rfl
 case round =>
   subst hrel
   go_wp2
   go_ret2
   refine ⟨rfl, ⟨?_, ?_⟩, ?_⟩
   · have := Blk.new (w.alloc (.map #[] 0)) 212 #[.map (some w.heap.size)]
     simpa using this
   · exact (World.ownsMap_made w _ _ _).alloc _
   · exact ((Below.refl _ _).alloc (Nat.le_refl _) _).alloc (by simp) _
end Go.Proofs.YtendlmdmbkcdnaaGreatDoor.dd
namespace Go.Proofs.YtendlmdmbkcdnaaGreatDoor.gh
open Go.RowKit Go.Maps Go.WideMaps oc
set_option maxRecDepth 100000
inductive Part
 | top | seg | places | order | dir | tab | tabm | all | allm | cached | waits | segs | prods | told
 | row (n : Int)
abbrev Role := Option (Nat × Part)
structure Gh where
 ow : Nat → Tag
 rl : Nat → Role
def Is (G : Gh) (b : Nat) (r : Role) : Prop := G.ow b = .other ∧ G.rl b = r
def Fin (G : Gh) (w : World) : Prop := ∀ i, w.heap.size ≤ i → Is G i none
structure Fx (C : Tag → Role → Prop) (G G' : Gh) (w w' : World) : Prop where
 os : w'.os = w.os
 tape : w'.tape = w.tape
 output : w'.output = w.output
 size : w.heap.size ≤ w'.heap.size
 keep : ∀ i, i < w.heap.size → ¬ C (G.ow i) (G.rl i) → w'.heap[i]? = w.heap[i]?
 ow : ∀ i, i < w.heap.size → G'.ow i = G.ow i
 rl : ∀ i, i < w.heap.size → G'.rl i = G.rl i
def CN : Tag → Role → Prop := fun _ _ => False
def CK : Tag → Role → Prop := fun t _ => CD t
def CR (r : Role) : Tag → Role → Prop := fun t x => t = .other ∧ x = r
section
variable {C C' : Tag → Role → Prop} {G G' G'' : Gh} {w w' w'' : World}
theorem Fx.refl (C : Tag → Role → Prop) (G : Gh) (w : World) : Fx C G G w w := ⟨rfl, rfl, rfl, Nat.le_refl _, fun _ _ _ => rfl, fun _ _ => rfl, fun _ _ => rfl⟩
theorem Fx.mono (h : Fx C G G' w w') (hC : ∀ t r, C t r → C' t r) : Fx C' G G' w w' := ⟨h.os, h.tape, h.output, h.size, fun i hi hn => h.keep i hi (fun x => hn (hC _ _ x)), h.ow, h.rl⟩
theorem Fx.trans (h : Fx C G G' w w') (k : Fx C G' G'' w' w'') : Fx C G G'' w w'' :=
 ⟨k.os.trans h.os, k.tape.trans h.tape, k.output.trans h.output, Nat.le_trans h.size k.size,
   fun i hi hn => (k.keep i (Nat.lt_of_lt_of_le hi h.size) (by rw [h.ow i hi, h.rl i hi]; exact hn)).trans (h.keep i hi hn),
   fun i hi => (k.ow i (Nat.lt_of_lt_of_le hi h.size)).trans (h.ow i hi), fun i hi => (k.rl i (Nat.lt_of_lt_of_le hi h.size)).trans (h.rl i hi)⟩
theorem Fx.below (hb : Below w.heap.size w w') : Fx C G G w w' := ⟨hb.os, hb.tape, hb.output, hb.size, fun i hi _ => hb.block i hi, fun _ _ => rfl, fun _ _ => rfl⟩
theorem Fx.disk {ow' : Nat → Tag} (h : Fr CD G.ow ow' w w') : Fx CK G ⟨ow', G.rl⟩ w w' := ⟨h.os, h.tape, h.output, h.size, fun i hi hn => h.keep i hi hn, h.old, fun _ _ => rfl⟩
theorem Fx.grown {b : Nat} {r : Role} (h : w.grownBy w' (some b)) (hr : Is G b r) : Fx (CR r) G G w w' := ⟨h.os, h.tape, h.output, h.size, fun i hi hn => h.block i hi (fun e => hn (by injection e with e; subst e; exact hr)), fun _ _ => rfl, fun _ _ => rfl⟩
theorem Fx.grownv {o : Option Nat} {r : Role} (h : w.grownBy w' o) (hr : ∀ b, o = some b → Is G b r) : Fx (CR r) G G w w' := ⟨h.os, h.tape, h.output, h.size, fun i hi hn => h.block i hi (fun e => hn (hr i e.symm)), fun _ _ => rfl, fun _ _ => rfl⟩
theorem Fx.set {b : Nat} {r : Role} (i : Nat) (v : Value) (hr : Is G b r) : Fx (CR r) G G w (w.setCell ⟨b, i, none⟩ v) :=
 ⟨rfl, rfl, rfl, by rw [size_set]; exact Nat.le_refl _, fun j _ hn => Below.heap_setCell _ _ _ _ (by rintro rfl; exact hn hr), fun _ _ => rfl, fun _ _ => rfl⟩
def Gh.put (G : Gh) (b : Nat) (r : Role) : Gh := ⟨G.ow, fun i => if i = b then r else G.rl i⟩
theorem Gh.put_same (G : Gh) (b : Nat) (r : Role) (h : G.ow b = .other) : Is (G.put b r) b r := ⟨h, by simp [Gh.put]⟩
theorem Gh.put_other {G : Gh} {b i : Nat} {r x : Role} (h : Is G i x) (hn : i ≠ b) : Is (G.put b r) i x := ⟨h.1, by simp [Gh.put, hn, h.2]⟩
theorem Fx.put {b : Nat} (hb : w.heap.size ≤ b) (r : Role) (h : Fx C G G' w w') : Fx C G (G'.put b r) w w' :=
 ⟨h.os, h.tape, h.output, h.size, h.keep, h.ow, fun i hi => by
   show (if i = b then r else G'.rl i) = _
   rw [if_neg (by omega)]
   exact h.rl i hi⟩
theorem Fin.put {b : Nat} (h : Fin G w) (hb : b < w.heap.size) (r : Role) : Fin (G.put b r) w := fun i hi => Gh.put_other (h i hi) (by omega)
theorem Fin.more (h : Fin G w) (hs : w.heap.size ≤ w'.heap.size) : Fin G w' := fun i hi => h i (by omega)
theorem Fin.ow (h : Fin G w) : ∀ i, w.heap.size ≤ i → G.ow i = .other := fun i hi => (h i hi).1
theorem Is.keep {b : Nat} {r : Role} (h : Is G b r) (hF : Fx C G G' w w') (hb : b < w.heap.size) : Is G' b r := ⟨(hF.ow b hb).trans h.1, (hF.rl b hb).trans h.2⟩
end
def BlkR (w : World) (G : Gh) (b : Nat) (t : TypeId) (cs : Array Value) (r : Role) : Prop := Blk w b t cs ∧ Is G b r
def RowR (w : World) (G : Gh) (t : TypeId) (z : Nat) (v : Value) (n : Nat) (xs : List Value) (r : Role) : Prop := w.ownsRow 0 t z v n xs ∧ ∀ b, v.ownBlock = some b → Is G b r
def MapR (w : World) (G : Gh) (k : TypeId) (R : Value → Option (DataW Unit × List MemPlace)) (b n : Nat) (D : DataW Unit) (r : Role) : Prop := w.ownsMap Tryz.prog k R b n D ∧ Is G b r
section
variable {C : Tag → Role → Prop} {G G' : Gh} {w w' : World} {b n z : Nat} {t : TypeId} {cs : Array Value} {r : Role} {v : Value} {xs : List Value} {R : Value → Option (DataW Unit × List MemPlace)} {D : DataW Unit}
theorem BlkR.keep (h : BlkR w G b t cs r) (hF : Fx C G G' w w') (hC : ¬ C .other r) : BlkR w' G' b t cs r :=
 ⟨blk_keepH h.1 (hF.keep b h.1.lt (by rw [h.2.1, h.2.2]; exact hC)), h.2.keep hF h.1.lt⟩
theorem RowR.keep (h : RowR w G t z v n xs r) (hF : Fx C G G' w w') (hC : ¬ C .other r) : RowR w' G' t z v n xs r :=
 ⟨own_keepH h.1 fun g hg => hF.keep g (h.1.lt g hg).2 (by rw [(h.2 g hg).1, (h.2 g hg).2]; exact hC), fun g hg => (h.2 g hg).keep hF (h.1.lt g hg).2⟩
theorem MapR.keep (h : MapR w G t R b n D r) (hF : Fx C G G' w w') (hC : ¬ C .other r) : MapR w' G' t R b n D r :=
 ⟨map_keepH h.1 (hF.keep b h.1.lt (by rw [h.2.1, h.2.2]; exact hC)), h.2.keep hF h.1.lt⟩
theorem BlkR.set (h : BlkR w G b t cs r) (i : Nat) (u : Value) : BlkR (w.setCell ⟨b, i, none⟩ u) G b t (cs.setIfInBounds i u) r := ⟨h.1.set_ i u, h.2⟩
theorem BlkR.cell (h : BlkR w G b t cs r) (i : Nat) : w.cell? ⟨b, i, none⟩ = cs[i]? := h.1.cell i
theorem BlkR.frozen (h : BlkR w G b t cs r) (i : Nat) : w.frozen? ⟨b, i, none⟩ = false := h.1.frozen i
theorem RowR.none_ (w : World) (G : Gh) (t : TypeId) (z c : Nat) (r : Role) : RowR w G t z (.slice none 0 0) 0 [] r := ⟨World.ownsRow_nil _ _ _ _, fun b e => by simp [Value.ownBlock] at e⟩
theorem disk_keep {d : Nat} {S : DiskS} (h : DiskAt w G.ow d S) (hF : Fx C G G' w w') (hC : ∀ t r, C t r → t = .other) (hn : ∀ i, w.heap.size ≤ i → G'.ow i = .other) : DiskAt w' G'.ow d S := by
 obtain ⟨ms, mf, vc, dvals, hV⟩ := h
 exact ⟨ms, mf, vc, dvals, hV.keep (C := fun t => t = .other) ⟨hF.os, hF.tape, hF.output, hF.size, fun i hi hc => hF.keep i hi (fun x => hc (hC _ _ x)), hF.ow, fun i hi => Or.inl (hn i hi)⟩ (fun _ e => e) (fun i hi => hn i (Nat.le_trans hF.size hi))⟩
end
def anyR : Value → Option (DataW Unit × List MemPlace) := fun _ => some (.nil, [])
def keyL (n : Int) : Lit := .int .i64 n
theorem keyI (x : Int) (h0 : -9223372036854775808 ≤ x) (h1 : x ≤ 9223372036854775807) : keyOf Tryz.prog 3 (.int .i64 x) = some (.int .i64 x) := keyOf_int_mk Tryz.underlying3 (by simp [Lit.wf, show IntKind.i64.min = -9223372036854775808 from rfl, show IntKind.i64.max = 9223372036854775807 from rfl]; omega)
theorem lawN : Keyed Tryz.prog 3 := int_keyed Tryz.underlying3
theorem infoI : (Tryz.prog.info? 3).map (fun i => (i.zero, i.size, i.bytes)) = some (some (.int .i64 0), 1, 8) := by kernel_rfl
section
variable {C : Tag → Role → Prop} {G G' : Gh} {w w' W : World} {b n m z : Nat} {t : TypeId} {r : Role} {v v' : Value} {xs ys : List Value}
theorem own_some (h : w.ownsRow 0 t z v n xs) (hn : 0 < n) : ∃ b, v.ownBlock = some b ∧ b < w.heap.size := by
 obtain ⟨g, cap, rfl, _, hlt⟩ := h.form hn
 exact ⟨g, rfl, hlt⟩
theorem row_app (h : RowR w G t z v n xs r) (hW : Below w.heap.size w W) (ho : W.grownBy w' v.ownBlock) (h' : w'.ownsRow 0 t z v' m ys) (hm : 0 < m) (hl : v'.ownBlock = v.ownBlock ∨ v'.ownBlock = some W.heap.size) (hf : Fin G w) :
   ∃ G', RowR w' G' t z v' m ys r ∧ Fx (CR r) G G' w w' ∧ Fin G' w' ∧ G'.ow = G.ow := by
 obtain ⟨b, hb, hlt⟩ := own_some h' hm
 have hgo : ∀ g, v.ownBlock = some g → Is G g r := h.2
 have hF : Fx (CR r) G G w w' := (Fx.below hW).trans (Fx.grownv ho hgo)
 refine ⟨G.put b r, ⟨h', fun g hg => ?_⟩, ?_, fun i hi => Gh.put_other (hf i (Nat.le_trans hF.size hi)) (by omega), rfl⟩
 · rw [hb] at hg
   cases hg
   refine Gh.put_same G b r ?_
   rcases hl with hl | hl
   · exact (hgo b (by rw [← hl, hb])).1
   · rw [hb] at hl
     cases hl
     exact (hf _ hW.size).1
 · refine ⟨hF.os, hF.tape, hF.output, hF.size, hF.keep, hF.ow, fun i hi => ?_⟩
   show (if i = b then r else G.rl i) = G.rl i
   by_cases e : i = b
   · subst e
     rw [if_pos rfl]
     rcases hl with hl | hl
     · exact (hgo i (by rw [← hl, hb])).2.symm
     · rw [hb] at hl
       cases hl
       exact absurd hi (by have := hW.size; omega)
   · rw [if_neg e]
theorem Fx.map (h : w.grownBy w' (some b)) (hr : Is G b r) : Fx (CR r) G G w w' := Fx.grown h hr
theorem Fx.cr (h : Fx (CR r) G G' w w') (hC : ∀ t, t = .other → C t r) : Fx C G G' w w' := h.mono fun t x hx => by
 obtain ⟨h1, rfl⟩ := hx
 exact hC t h1
end
end Go.Proofs.YtendlmdmbkcdnaaGreatDoor.gh
namespace Go.Proofs.YtendlmdmbkcdnaaGreatDoor.oc
open Go.RowKit Go.Maps Go.WideMaps
set_option maxRecDepth 100000
theorem size_no (w : World) (ow : Nat → Tag) (d : Nat) (S : DiskS) (h : DiskAt w ow d S) (hd : S.dead = false) (s : ByteArray) (hs : GoodN s) (he : NoEnt S.dir s) : Calls Tryz.prog 123 #[.pointer (some ⟨d, 0, none⟩), .string s] w fun e w' => e = .returned (.tuple #[.int .i64 0, .int .i64 31]) ∧ Below w.heap.size w w' := by
 have HAT := Lib.hid (at_no w ow d S h hd s hs he)
 clear h hd hs he
 go_enter Tryz.func123, Tryz.ntmps123
 go_wp2_with fail
 refine HAT.out.mono ?_
 rintro e w1 ⟨rfl, hb1⟩
 clear HAT
 go_wp2_with fail
 go_ret2
 exact ⟨rfl, hb1⟩
theorem size_yes (w : World) (ow : Nat → Tag) (d f : Nat) (S : DiskS) (F : FileS) (h : DiskAt w ow d S) (hd : S.dead = false) (s : ByteArray) (hs : GoodN s) (he : EntF S.dir s f) (hF : S.file f = some F) : Calls Tryz.prog 123 #[.pointer (some ⟨d, 0, none⟩), .string s] w fun e w' => e = .returned (.tuple #[.int .i64 F.seen.length, .int .i64 0]) ∧ Below w.heap.size w w' := by
 have HAT := Lib.hid (at_yes w ow d f S h hd s hs he)
 have HH := Lib.hid h
 clear h hd hs he
 go_enter Tryz.func123, Tryz.ntmps123
 go_wp2_with fail
 refine HAT.out.mono ?_
 rintro e w1 ⟨rfl, hb1⟩
 obtain ⟨ms, mf, vc, dvals, hV⟩ := HH.out.below hb1
 obtain ⟨vs, vf, vc2, vals, hB, ht, ⟨hs, _⟩, _⟩ := hV.2.2.2.2.2.2.1 f F hF
 obtain ⟨As, cs, rfl⟩ := own_slice hs
 have c0 : w1.cell? ⟨f, 0, none⟩ = some (.slice As F.seen.length cs) := (hB.cell 0).trans rfl
 clear HAT hV hB hs
 go_wp2_with fail
 go_ret2
 exact ⟨rfl, hb1⟩
theorem key_ne {s t : ByteArray} (h : t ≠ s) : key t ≠ key s := by
 intro e
 unfold key at e
 injection e with e
 apply h
 have : t.data = s.data := by
   apply Array.ext'
   exact e
 cases t
 cases s
 simp_all
theorem key_lit (s : ByteArray) : WideAt.IsKeyLit (key s) := by
 simp [key, WideAt.IsKeyLit]
theorem DiskAt.map {w : World} {ow : Nat → Tag} {d : Nat} {S : DiskS} (h : DiskAt w ow d S) : IsMap S.dir ∧ IsMap S.safe := by
 obtain ⟨ms, mf, vc, dvals, h⟩ := h
 exact ⟨h.2.2.1.1.isMap, h.2.2.2.1.1.isMap⟩
theorem ent_made {D : DataW Unit} (hD : IsMap D) (s : ByteArray) (f : Nat) : EntF (doD D (.made s f)) s f := ⟨atKey_put_same hD (key_lit s) _ _, has_put_same hD (key_lit s) _⟩
theorem ent_made_other {D : DataW Unit} {s t : ByteArray} {f g : Nat} (h : EntF D t g) (hn : t ≠ s) : EntF (doD D (.made s f)) t g := ⟨(atKey_put_other (key_ne hn) _ _).trans h.1, (has_put_other (key_ne hn) _).trans h.2⟩
theorem noent_made_other {D : DataW Unit} {s t : ByteArray} {f : Nat} (h : NoEnt D t) (hn : t ≠ s) : NoEnt (doD D (.made s f)) t := ⟨(atKey_put_other (key_ne hn) _ _).trans h.1, (has_put_other (key_ne hn) _).trans h.2⟩
theorem ent_ren {D : DataW Unit} (hD : IsMap D) {a b : ByteArray} {f : Nat} (h : EntF D a f) (hn : b ≠ a) : EntF (doD D (.ren a b)) b f := by
 refine ⟨(atKey_del_other (key_ne hn) _).trans ((atKey_put_same hD (key_lit b) _ _).trans h.1), (has_del_other (key_ne hn)).trans (has_put_same hD (key_lit b) _)⟩
theorem noent_ren {D : DataW Unit} {a b : ByteArray} : NoEnt (doD D (.ren a b)) a := ⟨atKey_del_same _, has_del_same⟩
theorem ent_ren_other {D : DataW Unit} {a b t : ByteArray} {g : Nat} (h : EntF D t g) (h1 : t ≠ a) (h2 : t ≠ b) : EntF (doD D (.ren a b)) t g := ⟨(atKey_del_other (key_ne h1) _).trans ((atKey_put_other (key_ne h2) _ _).trans h.1), (has_del_other (key_ne h1)).trans ((has_put_other (key_ne h2) _).trans h.2)⟩
theorem noent_ren_other {D : DataW Unit} {a b t : ByteArray} (h : NoEnt D t) (h1 : t ≠ a) (h2 : t ≠ b) : NoEnt (doD D (.ren a b)) t := ⟨(atKey_del_other (key_ne h1) _).trans ((atKey_put_other (key_ne h2) _ _).trans h.1), (has_del_other (key_ne h1)).trans ((has_put_other (key_ne h2) _).trans h.2)⟩
def DInv (S : DiskS) : Prop := S.dir = doAll S.dchs S.safe ∧ ∀ (k : Nat) ch, S.dchs[k]? = some ch → ChOk (doAll (S.dchs.take k) S.safe) ch
theorem DInv.add {S S' : DiskS} {ch : DChg} (h : DInv S) (hok : ChOk S.dir ch) (h1 : S'.dir = doD S.dir ch) (h2 : S'.safe = S.safe) (h3 : S'.dchs = S.dchs ++ [ch]) : DInv S' := by
 refine ⟨by rw [h1, h2, h3, doAll_snoc, h.1], fun k c hk => ?_⟩
 rw [h3] at hk ⊢
 rw [h2]
 by_cases hlt : k < S.dchs.length
 · rw [List.take_append_of_le_length (by omega)]
   exact h.2 k c (by simpa [List.getElem?_append_left hlt] using hk)
 · have hil : k = S.dchs.length := by
     have := (List.getElem?_eq_some_iff.1 hk).1
     simp at this
     omega
   subst hil
   have : c = ch := by simpa using hk.symm
   subst this
   rw [List.take_append_of_le_length (Nat.le_refl _), List.take_length, ← h.1]
   exact hok
theorem DInv.sync {S S' : DiskS} (h : DInv S) (h1 : S'.dir = S.dir) (h2 : S'.safe = doAll S.dchs S.safe) (h3 : S'.dchs = []) : DInv S' := by
 refine ⟨by rw [h1, h2, h3, h.1]; rfl, fun k c hk => ?_⟩
 rw [h3] at hk
 simp at hk
theorem DInv.same {S S' : DiskS} (h : DInv S) (h1 : S'.dir = S.dir) (h2 : S'.safe = S.safe) (h3 : S'.dchs = S.dchs) : DInv S' := by
 unfold DInv
 rw [h1, h2, h3]
 exact h
end Go.Proofs.YtendlmdmbkcdnaaGreatDoor.oc
namespace Go.Proofs.YtendlmdmbkcdnaaGreatDoor.oc
open Go.RowKit
set_option maxRecDepth 100000
def cmpL : List UInt8 → List UInt8 → Int
 | [], [] => 0
 | [], _ :: _ => -1
 | _ :: _, [] => 1
 | x :: a, y :: b => if x.toNat < y.toNat then -1 else if y.toNat < x.toNat then 1 else cmpL a b
theorem cmpL_at (a b : ByteArray) (i : Nat) (ha : i < a.size) (hb : i < b.size) : cmpL (a.data.toList.drop i) (b.data.toList.drop i) = if (a[i]'ha).toNat < (b[i]'hb).toNat then -1 else if (b[i]'hb).toNat < (a[i]'ha).toNat then 1 else cmpL (a.data.toList.drop (i + 1)) (b.data.toList.drop (i + 1)) := by
 have e1 : a.data.toList.drop i = a[i]'ha :: a.data.toList.drop (i + 1) := List.drop_eq_getElem_cons (by simpa using ha)
 have e2 : b.data.toList.drop i = b[i]'hb :: b.data.toList.drop (i + 1) := List.drop_eq_getElem_cons (by simpa using hb)
 rw [e1, e2, cmpL]
theorem cmpL_end (a b : ByteArray) (i : Nat) (h : i = min a.size b.size) : cmpL (a.data.toList.drop i) (b.data.toList.drop i) = min (max ((a.size : Int) - b.size) (-1)) 1 := by
 have h1 : (a.data.toList.drop i).length = a.size - i := by simp
 have h2 : (b.data.toList.drop i).length = b.size - i := by simp
 rcases Nat.lt_trichotomy a.size b.size with h3 | h3 | h3
 · obtain hx : a.data.toList.drop i = [] := List.eq_nil_of_length_eq_zero (by omega)
   obtain ⟨y, ys, hy⟩ : ∃ y ys, b.data.toList.drop i = y :: ys := List.exists_cons_of_length_pos (by omega)
   rw [hx, hy, cmpL]
   omega
 · obtain hx : a.data.toList.drop i = [] := List.eq_nil_of_length_eq_zero (by omega)
   obtain hy : b.data.toList.drop i = [] := List.eq_nil_of_length_eq_zero (by omega)
   rw [hx, hy, cmpL]
   omega
 · obtain ⟨y, ys, hy⟩ : ∃ y ys, a.data.toList.drop i = y :: ys := List.exists_cons_of_length_pos (by omega)
   obtain hx : b.data.toList.drop i = [] := List.eq_nil_of_length_eq_zero (by omega)
   rw [hx, hy, cmpL]
   omega
theorem ret_int {x y : Int} (h : x = y) : Ending.returned (.int .i64 x) = .returned (.int .i64 y) := by rw [h]
set_option maxHeartbeats 2000000 in
theorem compare_any (a b : ByteArray) (ha : a.size ≤ 1073741824) (hb : b.size ≤ 1073741824) (w : World) : Calls Tryz.prog 104 #[.string a, .string b] w fun e w' => e = .returned (.int .i64 (cmpL a.data.toList b.data.toList)) ∧ Below w.heap.size w w' := by
 obtain ⟨res, hres⟩ : ∃ x, cmpL a.data.toList b.data.toList = x := ⟨_, rfl⟩
 rw [hres]
 have HRES := Lib.hid hres
 clear hres
 go_enter Tryz.func104, Tryz.ntmps104
 go_wp2_with fail
 all_goals
   go_loopw [11] (fun i wr => ∃ k : Nat, k ≤ min a.size b.size ∧ i = .int .i64 (k : Int) ∧ Hid (cmpL (a.data.toList.drop k) (b.data.toList.drop k) = res) ∧ Hid (Below w.heap.size w wr)) (fun i _ => min a.size b.size - (intOf i).toNat)
   case atStart => exact ⟨0, Nat.zero_le _, rfl, Lib.hid (by simpa using HRES.out), Lib.hid (Below.refl _ _)⟩
   case round =>
     obtain ⟨k, hk, rfl, HR, HB0⟩ := hrel
     by_cases hlt : k < min a.size b.size
     · have hA : k < a.size := by omega
       have hB : k < b.size := by omega
       have hx := cmpL_at a b k hA hB
       rw [HR.out] at hx
       have HX := Lib.hid hx
       clear hx
       go_wp2_with fail
       rcases Nat.lt_trichotomy (a[k]'hA).toNat (b[k]'hB).toNat with h1 | h1 | h1
       · have h2 : ((a[k]'hA).toNat : Int) < ((b[k]'hB).toNat : Int) := by omega
         have h3 : res = -1 := by rw [HX.out, if_pos h1]
         subst h3
         go_quiet (fail)
         go_wp2_with fail
         go_ret
         exact ⟨rfl, by exact below_drewN HB0.out _⟩
       · have h2 : ¬ ((a[k]'hA).toNat : Int) < ((b[k]'hB).toNat : Int) := by omega
         have h3 : ¬ ((b[k]'hB).toNat : Int) < ((a[k]'hA).toNat : Int) := by omega
         have HY : Hid (cmpL (a.data.toList.drop (k + 1)) (b.data.toList.drop (k + 1)) = res) := Lib.hid (by rw [HX.out, if_neg (by omega), if_neg (by omega)])
         go_quiet (fail)
         go_wp2_with fail
         go_quiet (fail)
         go_wp2_with fail
         go_roundw
         case rel => exact ⟨k + 1, by omega, by go_num, HY, Lib.hid (by exact below_drewN HB0.out _)⟩
         case measure => simp [intOf]; omega
       · have h2 : ¬ ((a[k]'hA).toNat : Int) < ((b[k]'hB).toNat : Int) := by omega
         have h4 : ((b[k]'hB).toNat : Int) < ((a[k]'hA).toNat : Int) := by omega
         have h3 : res = 1 := by rw [HX.out, if_neg (by omega), if_pos h1]
         subst h3
         go_quiet (fail)
         go_wp2_with fail
         go_quiet (fail)
         go_wp2_with fail
         go_ret
         exact ⟨rfl, by exact below_drewN (below_drewN HB0.out _) _⟩
     · have hx := cmpL_end a b k (by omega)
       rw [HR.out] at hx
       have HX := Lib.hid hx
       clear hx
       go_wp2_with fail
       all_goals
         have e := HX.out
         go_ret
         refine ⟨ret_int ?_, by exact HB0.out⟩
         rw [e, Int.max_def, Int.min_def]
         repeat' split
         all_goals omega
end Go.Proofs.YtendlmdmbkcdnaaGreatDoor.oc
