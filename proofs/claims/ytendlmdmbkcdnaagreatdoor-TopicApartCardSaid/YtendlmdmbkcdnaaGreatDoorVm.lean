/-
  Texts of the proof joined by a program: Hib Hic Hid Hie Dde Ddf Ddg.
-/
import Derived.Test.YtendlmdmbkcdnaaGreatDoorVl
import Derived.Maps.RangeWalk
import Derived.Maps.Ext
import Derived.Test.YtendlmdmbkcdnaaGreatDoorSml
set_option linter.unusedSimpArgs false
set_option linter.unusedVariables false
namespace Go.Proofs.YtendlmdmbkcdnaaGreatDoor.hi
open Go.RowKit Go.Maps Go.WideMaps oc rc gh dk sg ma
open Go.Lib (hid)
set_option maxRecDepth 100000
theorem text_k (B g : Nat) (l : List UInt8) (s : ByteArray) (hs : s.size <= 1073741824) (hn : l.length <= 1073741824) (w : World) (h : Wr w B g l) : Calls Tryz.prog 168 #[.pointer (some ⟨g, 0, none⟩), .string s] w fun e w' => e = .returned (.tuple #[]) /\ Wr w' B g (l ++ uv 9 s.size ++ s.data.toList) /\ Below B w w' /\ KeepT w w' := by
 have hBw : B <= w.heap.size := Nat.le_of_lt (Nat.lt_of_le_of_lt h.1 h.lt)
 have HW := hid h
 have hul := uv_length 9 s.size
 have hsz : s.data.toList.length = s.size := by simp
 have HSZ := hid hsz
 clear h hsz
 go_enter Tryz.func168, Tryz.ntmps168
 go_wp2_with fail
 refine (wuv_k B g l s.size (by omega) (by omega) w HW.out).mono ?_
 rintro e w1 ⟨rfl, h1, hb1, hk1⟩
 have H1 := hid h1
 have HB1 := hid hb1
 have HK1 := hid hk1
 have hcv := Lib.run_convert_string_bytes (P := Tryz.prog) w1 9 74 5 s Tryz.underlying9 Tryz.underlying74 Tryz.underlying5
 have HC := hid (rb_conv w1 s)
 have HCB := hid (conv_below w1 5 s)
 clear h1 hb1 hk1
 generalize Lib.bytesWorld w1 5 s = w2 at hcv HC HCB
 generalize grownCap w1 s.size 0 5 = cap at hcv
 go_wp2_with fail
 have hr := raw_k B g (l ++ uv 9 s.size) s.data.toList (by rw [HSZ.out, List.length_append]; omega) (some ⟨w1.heap.size, 0, none⟩) cap w2 (H1.out.below HCB.out) HC.out
 rw [HSZ.out] at hr
 refine hr.mono ?_
 clear hr hcv
 rintro e w3 ⟨rfl, h3, hb3, hk3⟩
 have H3 := hid h3
 have HB3 := hid hb3
 have HK3 := hid hk3
 clear h3 hb3 hk3
 go_wp2_with fail
 go_end0
 exact ⟨rfl, H3.out, HB1.out.trans ((HCB.out.mono (Nat.le_trans hBw HB1.out.size)).trans HB3.out), HK1.out.trans ((KeepT.below HCB.out).trans HK3.out HCB.out.size) HB1.out.size⟩
def wu (x : Int) : Nat := (IntKind.u64.wrap x).toNat
theorem wu_lt (x : Int) : wu x < 18446744073709551616 := by rw [wu, IntKind.wrap_u64]; omega
theorem wu_is (x : Int) : IntKind.u64.wrap x = (wu x : Int) := by rw [wu, IntKind.wrap_u64]; omega
def entL (po pe : Int) (x : HE) : List UInt8 := uv 9 (wu (wrap64 (x.off - po))) ++ uv 9 (wu x.time) ++ uv 9 (wu (wrap64 (x.pos - pe))) ++ uv 9 (if x.tomb then wu (wu (wrap64 (2 * x.size)) + 1) else wu (wrap64 (2 * x.size))) ++ uv 9 x.key.size ++ x.key.data.toList
def entsL : List HE -> Int -> Int -> List UInt8
 | [], _, _ => []
 | x :: l, po, pe => entL po pe x ++ entsL l x.off (wrap64 (x.pos + x.size))
def hbodyL (seg size : Int) (l : List HE) : List UInt8 := uv 9 (wu seg) ++ uv 9 (wu size) ++ uv 9 l.length ++ entsL l (-1) 21
def BodAt (w0 wr : World) (l : List UInt8) : Prop := Wr wr w0.heap.size w0.heap.size l /\ Below w0.heap.size w0 wr
theorem BodAt.uv {w0 wr : World} {l : List UInt8} (v : Nat) (h : BodAt w0 wr l) (hv : v < 18446744073709551616) (hn : l.length <= 1073741824) :
  Calls Tryz.prog 167 #[.pointer (some ⟨w0.heap.size, 0, none⟩), .int .u64 (v : Int)] wr fun e w' => e = .returned (.tuple #[]) /\ BodAt w0 w' (l ++ Go.Proofs.YtendlmdmbkcdnaaGreatDoor.oc.uv 9 v) /\ KeepT wr w' := by
 obtain ⟨hW, hb⟩ := h
 refine (wuv_k _ _ l v hv (by omega) wr hW).mono ?_
 rintro e w' ⟨rfl, h1, h2, h3⟩
 exact ⟨rfl, ⟨h1, hb.trans h2⟩, h3⟩
theorem BodAt.text {w0 wr : World} {l : List UInt8} (s : ByteArray) (h : BodAt w0 wr l) (hs : s.size <= 64) (hn : l.length <= 1073741824) :
  Calls Tryz.prog 168 #[.pointer (some ⟨w0.heap.size, 0, none⟩), .string s] wr fun e w' => e = .returned (.tuple #[]) /\ BodAt w0 w' (l ++ Go.Proofs.YtendlmdmbkcdnaaGreatDoor.oc.uv 9 s.size ++ s.data.toList) /\ KeepT wr w' := by
 obtain ⟨hW, hb⟩ := h
 refine (text_k _ _ l s (by omega) (by omega) wr hW).mono ?_
 rintro e w' ⟨rfl, h1, h2, h3⟩
 exact ⟨rfl, ⟨h1, hb.trans h2⟩, h3⟩
theorem BodAt.alloc {w0 wr : World} {l : List UInt8} (h : BodAt w0 wr l) (y : Obj) : BodAt w0 (wr.alloc y) l := by
 obtain ⟨⟨h1, v, h2, h3⟩, hb⟩ := h
 exact ⟨⟨h1, v, h2.alloc _, h3.alloc _⟩, hb.alloc hb.size _⟩
theorem BodAt.below {w0 wr w' : World} {l : List UInt8} (h : BodAt w0 wr l) (hb' : Below wr.heap.size wr w') : BodAt w0 w' l := ⟨h.1.below hb', h.2.trans (hb'.mono h.2.size)⟩
theorem entL_len (po pe : Int) (x : HE) (h : x.key.size <= 64) : (entL po pe x).length <= 114 := by
 have h1 := uv_length 9 (wu (wrap64 (x.off - po)))
 have h2 := uv_length 9 (wu x.time)
 have h3 := uv_length 9 (wu (wrap64 (x.pos - pe)))
 have h4 := uv_length 9 (if x.tomb then wu (wu (wrap64 (2 * x.size)) + 1) else wu (wrap64 (2 * x.size)))
 have h5 := uv_length 9 x.key.size
 have h6 : x.key.data.toList.length = x.key.size := by simp
 simp only [entL, List.length_append, h6]
 omega
theorem entsL_len : ∀ (l : List HE) (po pe : Int), (∀ x ∈ l, x.key.size <= 64) -> (entsL l po pe).length <= 114 * l.length
 | [], _, _, _ => by simp [entsL]
 | x :: l, po, pe, h => by
  have h1 := entL_len po pe x (h x List.mem_cons_self)
  have h2 := entsL_len l x.off (wrap64 (x.pos + x.size)) (fun y hy => h y (List.mem_cons_of_mem _ hy))
  simp only [entsL, List.length_append, List.length_cons]
  omega
theorem hbodyL_len (seg size : Int) (l : List HE) (h : ∀ x ∈ l, x.key.size <= 64) : (hbodyL seg size l).length <= 30 + 114 * l.length := by
 have h1 := uv_length 9 (wu seg)
 have h2 := uv_length 9 (wu size)
 have h3 := uv_length 9 l.length
 have h4 := entsL_len l (-1) 21 h
 simp only [hbodyL, List.length_append]
 omega
set_option maxHeartbeats 8000000 in
theorem hbody_any (w : World) (seg size : Int) (l : List HE) (H : ∀ x ∈ l, x.key.size <= 64) (hl : l.length <= 65536) (A : Option Addr) (c : Nat) (h : HesAt w A l) :
  Calls Tryz.prog 160 #[.agg (hintC seg size A l.length c)] w fun e w' => ∃ A' c', e = .returned (.slice A' (hbodyL seg size l).length c') /\ w'.ownsRow w.heap.size 5 1 (.slice A' (hbodyL seg size l).length c') (hbodyL seg size l).length (bc (hbodyL seg size l)) /\ Below w.heap.size w w' := by
 have HBN := hid (hbodyL_len seg size l H)
 obtain ⟨T, hT⟩ : ∃ T, hbodyL seg size l = T := ⟨_, rfl⟩
 rw [hT] at HBN ⊢
 have HT := hid hT
 clear hT
 have HH := hid H
 have HE := hid h
 have HL := hid hl
 clear H h hl
 unfold hintC
 go_enter Tryz.func160, Tryz.ntmps160
 obtain ⟨w1, hw1⟩ : ∃ y, w.alloc (.cells #[.int .i64 seg, .int .i64 size, .slice A l.length c] 193) = y := ⟨_, rfl⟩
 have HB1 : Hid (Below w.heap.size w w1) := by rw [<- hw1]; exact hid ((Below.refl _ _).alloc (Nat.le_refl _) _)
 have HK1 : Hid (Blk w1 w.heap.size 193 #[.int .i64 seg, .int .i64 size, .slice A l.length c]) := by rw [<- hw1]; exact hid (Blk.new w _ _)
 have e1 := wu_is seg
 have e2 := wu_is size
 have hv1 := wu_lt seg
 have hv2 := wu_lt size
 have e3 : IntKind.u64.wrap (l.length : Int) = (l.length : Int) := u64_in (by have := HL.out; omega)
 have HV1 := hid hv1
 have HV2 := hid hv2
 clear hv1 hv2
 go_wp2_with fail
 clear hw1
 refine (writer_new w1.heap.size w1 (Nat.le_refl _)).mono ?_
 rintro e w2 ⟨rfl, hr2, hb2⟩
 have HE2 : Hid (BodAt w1 w2 []) := hid ⟨hr2, hb2⟩
 have HK2 := hid (HK1.out.below hb2 HK1.out.lt)
 have c0 : w2.cell? ⟨w.heap.size, 0, none⟩ = some (.int .i64 seg) := (HK2.out.cell 0).trans rfl
 clear hr2 hb2
 go_wp2_with fail
 refine (HE2.out.uv (wu seg) HV1.out (by simp)).mono ?_
 rintro e w3 ⟨rfl, h3, hk3⟩
 have HE3 := hid h3
 have HK3 := hid (hk3.blk HK2.out (by decide) (by decide))
 have c1 : w3.cell? ⟨w.heap.size, 1, none⟩ = some (.int .i64 size) := (HK3.out.cell 1).trans rfl
 clear h3 hk3 c0
 go_wp2_with fail
 refine (HE3.out.uv (wu size) HV2.out (by have h1 := uv_length 9 (wu seg); simp only [List.length_append, List.length_nil]; omega)).mono ?_
 rintro e w4 ⟨rfl, h4, hk4⟩
 have HE4 := hid h4
 have HK4 := hid (hk4.blk HK3.out (by decide) (by decide))
 have c2 : w4.cell? ⟨w.heap.size, 2, none⟩ = some (.slice A l.length c) := (HK4.out.cell 2).trans rfl
 clear h4 hk4 c1
 go_wp2_with fail
 refine (HE4.out.uv l.length (by have := HL.out; omega) (by have h1 := uv_length 9 (wu seg); have h2 := uv_length 9 (wu size); simp only [List.length_append, List.length_nil]; omega)).mono ?_
 rintro e w5 ⟨rfl, h5, hk5⟩
 have HE5 : Hid (∃ p, p ++ entsL l (-1) 21 = T /\ BodAt w1 w5 p) := hid ⟨_, HT.out, h5⟩
 have HK5 := hid (hk5.blk HK4.out (by decide) (by decide))
 have c2' : w5.cell? ⟨w.heap.size, 2, none⟩ = some (.slice A l.length c) := (HK5.out.cell 2).trans rfl
 clear h5 hk5 c2 e1 e2 e3
 go_wp2_with fail
 clear c2'
 go_loopw [4, 5, 29] (fun o e i wr => ∃ (k : Nat) (po pe : Int), k <= l.length /\ i = .int .i64 (k : Int) /\ o = .int .i64 po /\ e = .int .i64 pe /\ Hid (∃ p, p ++ entsL (l.drop k) po pe = T /\ BodAt w1 wr p)) (fun _ _ i _ => l.length - (intOf i).toNat)
 case atStart => exact ⟨0, -1, 21, Nat.zero_le _, rfl, rfl, rfl, HE5⟩
 case round =>
  obtain ⟨k, po, pe, hk, rfl, rfl, rfl, HEk⟩ := hrel
  clear HE5 HK5 HE4 HK4 HE3 HK3 HE2
  by_cases hlt : k < l.length
  ·obtain ⟨x, hx⟩ : ∃ x, l[k]? = some x := ⟨_, List.getElem?_eq_getElem hlt⟩
   obtain ⟨p, hp, hE⟩ := HEk.out
   have HBk : Hid (Below w1.heap.size w1 wr) := hid hE.2
   rw [drop_some hx, entsL, entL] at hp
   have HPP := hid hp
   have HPL : Hid (p.length + 200 <= 1073741824) := hid (by have h1 := HBN.out; have h2 := HL.out; have h3 := congrArg List.length hp; rw [List.length_append] at h3; omega)
   have HEk := hid hE
   clear hp hE
   obtain ⟨b, off, rfl, hbl, hc⟩ := (HE.out.below (HB1.out.trans (HBk.out.mono HB1.out.size))) (by omega)
   obtain ⟨e0, e1, e2, e3, e4, e5⟩ := hc k x hx
   have HKY : Hid (x.key.size <= 64) := hid (HH.out x (List.mem_of_getElem? hx))
   obtain ⟨key, xo, xt, tb, xp, xs⟩ := x
   dsimp only at HPP e0 e1 e2 e3 e4 e5 HKY
   have i9 : IntKind.i64.wrap ((k : Int) + 1) = (k : Int) + 1 := by have := HL.out; rw [IntKind.wrap_i64]; omega
   have f1 := wu_is (wrap64 (2 * xs))
   have f2 := wu_is (wu (wrap64 (2 * xs)) + 1)
   have f3 := wu_is (wrap64 (xo - po))
   have f4 := wu_is xt
   have f5 := wu_is (wrap64 (xp - pe))
   have b1 := wu_lt (wrap64 (2 * xs))
   have b2 := wu_lt (wu (wrap64 (2 * xs)) + 1)
   have b3 := wu_lt (wrap64 (xo - po))
   have b4 := wu_lt xt
   have b5 := wu_lt (wrap64 (xp - pe))
   generalize wu (wrap64 (2 * xs)) = u1 at *
   generalize wu ((u1 : Int) + 1) = u2 at *
   generalize wu (wrap64 (xo - po)) = u3 at *
   generalize wu xt = u4 at *
   generalize wu (wrap64 (xp - pe)) = u5 at *
   have HU : Hid (u1 < 18446744073709551616 /\ u2 < 18446744073709551616 /\ u3 < 18446744073709551616 /\ u4 < 18446744073709551616 /\ u5 < 18446744073709551616) := hid ⟨b1, b2, b3, b4, b5⟩
   clear b1 b2 b3 b4 b5
   have HEA : Hid (BodAt w1 (wr.alloc (.cells #[.string key, .int .i64 xo, .int .i64 xt, .bool tb, .int .i64 xp, .int .i64 xs] 279)) p) := hid (HEk.out.alloc _)
   have HBX : Hid (Blk (wr.alloc (.cells #[.string key, .int .i64 xo, .int .i64 xt, .bool tb, .int .i64 xp, .int .i64 xs] 279)) wr.heap.size 279 #[.string key, .int .i64 xo, .int .i64 xt, .bool tb, .int .i64 xp, .int .i64 xs]) := hid (Blk.new wr _ _)
   clear hx hc hbl HEk HBk
   cases tb
   all_goals
    go_wp2_with fail
    generalize wr.alloc (.cells #[.string key, .int .i64 xo, .int .i64 xt, .bool _, .int .i64 xp, .int .i64 xs] 279) = wa at HEA HBX ⊢
    generalize wr.heap.size = eb at HBX ⊢
    refine (HEA.out.uv u3 HU.out.2.2.1 (by have := HPL.out; have h1 := uv_length 9 u3; have h2 := uv_length 9 u4; have h3 := uv_length 9 u5; have h4 := uv_length 9 u1; have h5 := uv_length 9 u2; (try simp only [List.length_append]); omega)).mono ?_
    rintro e w2 ⟨rfl, h2, hk2⟩
    have HE2 := hid h2
    have HX2 := hid (hk2.blk HBX.out (by decide) (by decide))
    have a2 : w2.cell? ⟨eb, 2, none⟩ = some (.int .i64 xt) := (HX2.out.cell 2).trans rfl
    clear h2 hk2 HEA HBX
    go_wp2_with fail
    refine (HE2.out.uv u4 HU.out.2.2.2.1 (by have := HPL.out; have h1 := uv_length 9 u3; have h2 := uv_length 9 u4; have h3 := uv_length 9 u5; have h4 := uv_length 9 u1; have h5 := uv_length 9 u2; (try simp only [List.length_append]); omega)).mono ?_
    rintro e w3 ⟨rfl, h3, hk3⟩
    have HE3 := hid h3
    have HX3 := hid (hk3.blk HX2.out (by decide) (by decide))
    have a4 : w3.cell? ⟨eb, 4, none⟩ = some (.int .i64 xp) := (HX3.out.cell 4).trans rfl
    clear h3 hk3 HE2 HX2 a2
    go_wp2_with fail
    refine (HE3.out.uv u5 HU.out.2.2.2.2 (by have := HPL.out; have h1 := uv_length 9 u3; have h2 := uv_length 9 u4; have h3 := uv_length 9 u5; have h4 := uv_length 9 u1; have h5 := uv_length 9 u2; (try simp only [List.length_append]); omega)).mono ?_
    rintro e w4 ⟨rfl, h4, hk4⟩
    have HE4 := hid h4
    have HX4 := hid (hk4.blk HX3.out (by decide) (by decide))
    clear h4 hk4 HE3 HX3 a4
    go_wp2_with fail
    first
     | refine (HE4.out.uv u1 HU.out.1 (by have := HPL.out; have h1 := uv_length 9 u3; have h2 := uv_length 9 u4; have h3 := uv_length 9 u5; have h4 := uv_length 9 u1; have h5 := uv_length 9 u2; (try simp only [List.length_append]); omega)).mono ?_
     | refine (HE4.out.uv u2 HU.out.2.1 (by have := HPL.out; have h1 := uv_length 9 u3; have h2 := uv_length 9 u4; have h3 := uv_length 9 u5; have h4 := uv_length 9 u1; have h5 := uv_length 9 u2; (try simp only [List.length_append]); omega)).mono ?_
    rintro e w5 ⟨rfl, h5, hk5⟩
    have HE5 := hid h5
    have HX5 := hid (hk5.blk HX4.out (by decide) (by decide))
    have a0 : w5.cell? ⟨eb, 0, none⟩ = some (.string key) := (HX5.out.cell 0).trans rfl
    clear h5 hk5 HE4 HX4
    go_wp2_with fail
    refine (HE5.out.text key HKY.out (by have := HPL.out; have h1 := uv_length 9 u3; have h2 := uv_length 9 u4; have h3 := uv_length 9 u5; have h4 := uv_length 9 u1; have h5 := uv_length 9 u2; (try simp only [List.length_append]); omega)).mono ?_
    rintro e w6 ⟨rfl, h6, hk6⟩
    have HE6 := hid h6
    have HX6 := hid (hk6.blk HX5.out (by decide) (by decide))
    have k1 := fun d' os => cell_regrown (show w6.cell? ⟨eb, 1, none⟩ = some (.int .i64 xo) from (HX6.out.cell 1).trans rfl) d' os
    have k4 := fun d' os => cell_regrown (show w6.cell? ⟨eb, 4, none⟩ = some (.int .i64 xp) from (HX6.out.cell 4).trans rfl) d' os
    have k5 := fun d' os => cell_regrown (show w6.cell? ⟨eb, 5, none⟩ = some (.int .i64 xs) from (HX6.out.cell 5).trans rfl) d' os
    clear h6 hk6 HE5 HX5 a0
    go_wp2_with fail
    refine wp_quiet_tail 8 (by kernel_rfl) (by kernel_rfl) (by kernel_rfl) ?_
    simp only [List.take, List.drop]
    repeat (first | go_big_quiet_skip | (go_big_quiet_want; go_big_quiet_op; go_big_quiet_on))
    refine wpQuiet_nil ?_
    intro w7 hw'
    obtain ⟨⟨dq, osq⟩, hw''⟩ := hw'
    have HE7 : Hid (∃ p, p ++ entsL (l.drop (k + 1)) xo (wrap64 (xp + xs)) = T /\ BodAt w1 w7 p) := by
     rw [hw'']
     refine hid ⟨_, ?_, HE6.out.below (below_regrown w6 dq osq)⟩
     rw [<- HPP.out]
     simp only [List.append_assoc, Bool.false_eq_true, if_true, if_false]
    clear hw'' k1 k4 k5
    go_wp2_with fail
    go_roundw
    case rel => exact ⟨k + 1, _, _, by omega, by go_num, rfl, rfl, HE7⟩
    case measure => simp [intOf]; omega
  ·obtain rfl : k = l.length := by omega
   obtain ⟨t, ht, hW, hb⟩ := HEk.out
   have HBk : Hid (Below w1.heap.size w1 wr) := hid hb
   rw [List.drop_length, entsL, List.append_nil] at ht
   subst ht
   have HTL : Hid (t.length <= 16777216) := hid (by have := HL.out; have := HBN.out; omega)
   have HW := hid hW
   clear hW hb HEk
   go_wp2_with fail
   refine (bytes_any _ _ t (by have := HTL.out; omega) wr HW.out wr.heap.size (Nat.le_refl _)).mono ?_
   rintro e w6 ⟨A6, c6, rfl, o6, b6⟩
   have HO6 := hid o6
   have HL6 : Hid (Below w1.heap.size w1 w6) := hid (HBk.out.trans (b6.mono HBk.out.size))
   have HLE : Hid (w.heap.size <= wr.heap.size) := hid (Nat.le_trans HB1.out.size HBk.out.size)
   clear o6 b6
   go_wp2_with fail
   go_ret
   exact ⟨A6, c6, rfl, own_less HO6.out HLE.out, HB1.out.trans (HL6.out.mono HB1.out.size)⟩
def hencL (seg size : Int) (l : List HE) : List UInt8 := ([] : List UInt8) ++ [UInt8.ofNat 177] ++ be4 (hbodyL seg size l).length ++ be4 (extN (extN 0 (be4 (hbodyL seg size l).length)) (hbodyL seg size l)) ++ hbodyL seg size l
def HEnc (w : World) (seg size : Int) (l : List HE) (e : Ending) (w' : World) : Prop :=
 (rightB size l = true /\ ∃ A c, e = .returned (.tuple #[.slice A (hencL seg size l).length c, .int .i64 0]) /\ w'.ownsRow w.heap.size 5 1 (.slice A (hencL seg size l).length c) (hencL seg size l).length (bc (hencL seg size l)) /\ Below w.heap.size w w')
 \/ (rightB size l = false /\ e = .returned (.tuple #[.slice none 0 0, .int .i64 60]) /\ Below w.heap.size w w')
theorem hencL_len (seg size : Int) (l : List HE) (h : ∀ x ∈ l, x.key.size <= 64) (hl : l.length <= 65536) : 0 < (hencL seg size l).length /\ (hencL seg size l).length <= 16777216 := by
 have := hbodyL_len seg size l h
 simp [hencL, be4_length]
 omega
theorem hint_cells {w : World} {b : Nat} {seg size : Int} {A : Option Addr} {n c : Nat} (h : Blk w b 193 (hintC seg size A n c)) : ∀ (j : Nat) (v : Value), (hintC seg size A n c).toList[j]? = some v -> w.cell? (Addr.add ⟨b, 0, none⟩ j) = some v := fun j v hj => by
 rw [add_flat, h.cell (0 + j)]
 simpa using hj
set_option maxHeartbeats 8000000 in
theorem hencode_any (w : World) (seg size : Int) (l : List HE) (H : ∀ x ∈ l, x.Ok) (hl : l.length <= 65536) (g0 : 0 <= seg) (g1 : seg < 1073741824) (z0 : 38 <= size) (z1 : size <= 65536) (A : Option Addr) (c : Nat) (h : HesAt w A l) :
  Calls Tryz.prog 100 #[.agg (hintC seg size A l.length c)] w (HEnc w seg size l) := by
 have HLN := hid (hencL_len seg size l (fun x hx => (H x hx).k1) hl)
 have HR0 := hid (fun W (hb : Below w.heap.size w W) => right_any W seg size l H hl g0 g1 z0 z1 A c (h.below hb))
 have HB0 := hid (fun W (hb : Below w.heap.size w W) => hbody_any W seg size l (fun x hx => (H x hx).k1) hl A c (h.below hb))
 clear H h hl g0 g1 z0 z1
 unfold hintC at HR0 HB0 ⊢
 go_enter Tryz.func100, Tryz.ntmps100
 obtain ⟨w1, hw1⟩ : ∃ y, w.alloc (.cells #[.int .i64 seg, .int .i64 size, .slice A l.length c] 193) = y := ⟨_, rfl⟩
 have HB1 : Hid (Below w.heap.size w w1) := by rw [<- hw1]; exact hid ((Below.refl _ _).alloc (Nat.le_refl _) _)
 have HK1 : Hid (Blk w1 w.heap.size 193 #[.int .i64 seg, .int .i64 size, .slice A l.length c]) := by rw [<- hw1]; exact hid (Blk.new w _ _)
 have kE := hint_cells HK1.out
 unfold hintC at kE
 go_wp2_with (first
  | ((with_reducible refine at_op ⟨_, .load 193 (.tmp 1), _, _, _, _⟩ ?_); refine wpList_load_list rfl 193 (.tmp 1) rfl ⟨w.heap.size, 0, none⟩ rfl _ kE _ Tryz.underlying193 rfl (by kernel_rfl) ?_)
  | fail)
 clear hw1 kE
 refine (HR0.out _ HB1.out).mono ?_
 rintro e w2 ⟨rfl, hb2⟩
 obtain ⟨b, hb⟩ : ∃ b, rightB size l = b := ⟨_, rfl⟩
 have HRB := hid hb
 rw [hb]
 clear hb
 have HB2 : Hid (Below w.heap.size w w2) := hid (HB1.out.trans (hb2.mono HB1.out.size))
 have HK2 := hid (HK1.out.below hb2 HK1.out.lt)
 clear hb2 HR0 HB1 HK1
 cases b with
 | false =>
  go_wp2_with fail
  go_ret2
  exact Or.inr ⟨HRB.out, rfl, HB2.out⟩
 | true =>
  have kE := hint_cells HK2.out
  unfold hintC at kE
  go_wp2_with (first
   | ((with_reducible refine at_op ⟨_, .load 193 (.tmp 1), _, _, _, _⟩ ?_); refine wpList_load_list rfl 193 (.tmp 1) rfl ⟨w.heap.size, 0, none⟩ rfl _ kE _ Tryz.underlying193 rfl (by kernel_rfl) ?_)
   | fail)
  clear kE
  refine (HB0.out _ HB2.out).mono ?_
  rintro e w3 ⟨A3, c3, rfl, o3, hb3⟩
  obtain ⟨t, ht⟩ : ∃ t, hencL seg size l = t := ⟨_, rfl⟩
  rw [ht] at HLN
  have HTE := hid ht
  have HT := hid ht
  unfold hencL at HT
  clear ht
  obtain ⟨b, hbe⟩ : ∃ b, hbodyL seg size l = b := ⟨_, rfl⟩
  rw [hbe] at o3 HT ⊢
  clear hbe
  have hbl : b.length <= 16777216 := by have h1 := HLN.out.2; have h2 := congrArg List.length HT.out; simp only [List.length_append] at h2; omega
  have HB3 : Hid (Below w.heap.size w w3) := hid (HB2.out.trans (hb3.mono HB2.out.size))
  have HO3 := hid (RB.of_own o3)
  have HBL := hid hbl
  have e1 : IntKind.u32.wrap (b.length : Int) = (b.length : Int) := by rw [IntKind.wrap_u32]; omega
  have hsum1 := extN_lt (s := 0) (by decide) (be4 b.length)
  have hsum2 := extN_lt hsum1 b
  have HS1 := hid hsum1
  have HS2 := hid hsum2
  clear o3 hb3 hbl HB2 HK2 HB0 hsum1 hsum2
  go_wp2_with fail
  refine (writer_new w3.heap.size w3 (Nat.le_refl _)).mono ?_
  rintro e w4 ⟨rfl, h4, b4⟩
  have H4 := hid h4
  have B4 := hid b4
  clear h4 b4
  go_wp2_with fail
  refine (byte_is _ _ _ 177 (by decide) (by simp) w4 H4.out).mono ?_
  rintro e w5 ⟨rfl, h5, b5⟩
  have H5 := hid h5
  have B5 : Hid (Below w3.heap.size w3 w5) := B4.out.trans b5
  clear h5 b5
  go_wp2_with fail
  refine (u32_any _ _ _ b.length (by have := HBL.out; omega) (by simp) w5 H5.out).mono ?_
  rintro e w6 ⟨rfl, h6, b6⟩
  have H6 := hid h6
  have B6 : Hid (Below w3.heap.size w3 w6) := B5.out.trans b6
  clear h6 b6
  go_wp2_with fail
  refine (bytes_any _ _ _ (by simp [be4_length]) w6 H6.out w6.heap.size (Nat.le_refl _)).mono ?_
  rintro e w7 ⟨A7, c7, rfl, o7, b7⟩
  have hlen : (([] : List UInt8) ++ [UInt8.ofNat 177] ++ be4 b.length).length = 5 := rfl
  have hrb := RB.of_own o7
  have hcp2 : ∃ g7, A7 = some ⟨g7, 0, none⟩ /\ 5 <= c7 := by
   rcases o7.2 with ⟨_, h0⟩ | ⟨g, cap, cur, hv, _, _, hn, _⟩
   ·rw [hlen] at h0
    omega
   ·injection hv with h1 h2 h3
    subst h1
    subst h3
    exact ⟨g, rfl, hn⟩
  obtain ⟨g7, rfl, hc7⟩ := hcp2
  have hrs := Go.Proofs.YtendlmdmbkcdnaaGreatDoor.sq.rb_sub hrb 1 4
  rw [show ((([] : List UInt8) ++ [UInt8.ofNat 177] ++ be4 b.length).drop 1).take 4 = be4 b.length from rfl] at hrs
  have HRS := hid hrs
  have B7 : Hid (Below w3.heap.size w3 w7) := B6.out.trans (b7.mono B6.out.size)
  have H7 := hid (H6.out.below b7)
  rw [hlen]
  clear hrs hrb hlen o7 b7
  go_wp2_with fail
  refine (sum_any (be4 b.length) (by simp [be4_length]) _ _ w7 HRS.out).mono ?_
  rintro e w8 ⟨rfl, b8⟩
  have B8 : Hid (Below w3.heap.size w3 w8) := B7.out.trans (b8.mono B7.out.size)
  have H8 := hid (H7.out.below b8)
  clear b8
  go_wp2_with fail
  refine (extend_any _ HS1.out b (by have := HBL.out; omega) A3 c3 w8 (HO3.out.below B8.out)).mono ?_
  rintro e w9 ⟨rfl, b9⟩
  have B9 : Hid (Below w3.heap.size w3 w9) := B8.out.trans (b9.mono B8.out.size)
  have H9 := hid (H8.out.below b9)
  clear b9
  go_wp2_with fail
  refine (u32_any _ _ _ _ HS2.out (by simp [be4_length]) w9 H9.out).mono ?_
  rintro e w10 ⟨rfl, h10, b10⟩
  have H10 := hid h10
  have B10 : Hid (Below w3.heap.size w3 w10) := B9.out.trans b10
  clear h10 b10
  go_wp2_with fail
  refine (raw_any _ _ _ b (by have := HBL.out; simp [be4_length]; omega) A3 c3 w10 H10.out (HO3.out.below B10.out)).mono ?_
  rintro e w11 ⟨rfl, h11, b11⟩
  rw [HT.out] at h11
  have H11 := hid h11
  have B11 : Hid (Below w3.heap.size w3 w11) := B10.out.trans b11
  clear h11 b11
  go_wp2_with fail
  refine (bytes_any _ _ t (by have := HLN.out; omega) w11 H11.out w11.heap.size (Nat.le_refl _)).mono ?_
  rintro e w12 ⟨A12, c12, rfl, o12, b12⟩
  have HO12 := hid o12
  have B12 : Hid (Below w3.heap.size w3 w12) := B11.out.trans (b12.mono B11.out.size)
  have HLE : Hid (w.heap.size <= w11.heap.size) := hid (Nat.le_trans HB3.out.size B11.out.size)
  clear o12 b12
  go_wp2_with fail
  go_ret2
  exact Or.inl ⟨HRB.out, A12, c12, by rw [HTE.out]; rfl, by rw [HTE.out]; exact own_less HO12.out HLE.out, HB3.out.trans (B12.out.mono HB3.out.size)⟩
end Go.Proofs.YtendlmdmbkcdnaaGreatDoor.hi
namespace Go.Proofs.YtendlmdmbkcdnaaGreatDoor.hi
open Go.RowKit Go.Maps Go.WideMaps oc rc gh dk sg ma
open Go.Lib (hid)
open Go.Lib (itoa)
set_option maxRecDepth 100000
theorem good_any (w : World) (n : Int) : Calls Tryz.prog 161 #[.int .i64 n] w fun e w' => e = .returned (.bool (decide (0 <= n) && decide (n < 1073741824))) /\ w' = w := by
 go_enter Tryz.func161, Tryz.ntmps161
 by_cases h1 : 0 <= n
 ·have g1 : decide (0 <= n) = true := decide_eq_true h1
  go_wp2_with fail
  go_ret
  simp [h1]
 ·have g1 : decide (0 <= n) = false := decide_eq_false h1
  go_wp2_with fail
  go_ret
  exact ⟨by simp only [g1, Bool.false_and]; rfl, rfl⟩
def hintN (t s : Int) : List UInt8 := [116] ++ itoa t ++ [46] ++ itoa s ++ [46, 104, 105, 110, 116]
theorem hname_any (w : World) (topic seg : Int) (h1 : okNum topic = true) (h2 : okNum seg = true) (ht : Tab w) :
  Calls Tryz.prog 162 #[.int .i64 topic, .int .i64 seg] w fun e w' => e = .returned (.string (Sb (hintN topic seg))) /\ Below w.heap.size w w' := by
 have hn1 := fun w => good_any w topic
 have hn2 := fun w => good_any w seg
 unfold okNum at h1 h2
 rw [h1] at hn1
 rw [h2] at hn2
 simp only [Bool.and_eq_true, decide_eq_true_eq] at h1 h2
 have z1 := sb_len topic (by omega) (by omega)
 have z2 := sb_len seg (by omega) (by omega)
 have y1 : ¬ 9223372036854775807 < 1 + (Sb (itoa topic)).size := by omega
 have y2 : ¬ 9223372036854775807 < 1 + (Sb (itoa topic)).size + 1 := by omega
 have y3 : ¬ 9223372036854775807 < 1 + (Sb (itoa topic)).size + 1 + (Sb (itoa seg)).size := by omega
 have y4 : ¬ 9223372036854775807 < 1 + (Sb (itoa topic)).size + 1 + (Sb (itoa seg)).size + 5 := by omega
 have HT := hid ht
 have HN := hid h1
 have HM := hid h2
 clear ht h1 h2
 go_enter Tryz.func162, Tryz.ntmps162
 go_wp2_with (first
  | (go_at_call 161; (first | with_reducible refine (hn1 _).mono ?_ | with_reducible refine (hn2 _).mono ?_); rintro e w1 ⟨rfl, rfl⟩)
  | fail)
 refine (itoa_any topic (by have := HN.out; omega) (by have := HN.out; omega) w1 HT.out).mono ?_
 rintro e w2 ⟨rfl, hb2⟩
 have HB2 := hid hb2
 have HT2 := hid (tab_below HT.out hb2)
 clear hb2
 go_wp2_with fail
 refine (itoa_any seg (by have := HM.out; omega) (by have := HM.out; omega) w2 HT2.out).mono ?_
 rintro e w3 ⟨rfl, hb3⟩
 have HB3 : Hid (Below w1.heap.size w1 w3) := hid (HB2.out.trans (hb3.mono HB2.out.size))
 clear hb3
 go_wp2_with fail
 go_ret
 refine ⟨?_, HB3.out⟩
 rw [hintN, sb_app, sb_app, sb_app, sb_app]
 rfl
theorem good_hint {t s : Int} (ht : okNum t = true) (hs : okNum s = true) : GoodN (Sb (hintN t s)) := by
 have h := good_t ht (e := [46] ++ itoa s ++ [46, 104, 105, 110, 116]) (by have := itoa_len hs; simp; omega) (by
  intro c hc
  simp only [List.mem_append] at hc
  rcases hc with (hc | hc) | hc
  ·simp at hc; subst hc; decide
  ·exact okc_digit (itoa_mem hs c hc)
  ·simp at hc; rcases hc with rfl | rfl | rfl | rfl | rfl <;> decide)
 simpa [hintN] using h
theorem clo_free (w : World) (a b c : Nat) (h : w.cell? ⟨a, 0, none⟩ = some (.int .i64 0)) :
  CallsD Tryz.prog 163 #[.pointer (some ⟨a, 0, none⟩), .pointer (some ⟨b, 0, none⟩), .pointer (some ⟨c, 0, none⟩)] .returning w fun e u' w' => u' = .returning /\ (e = .returned (.tuple #[]) /\ w' = w) := by
 go_enter_d Tryz.func163, Tryz.ntmps163
 go_wp2_with fail
 go_end0
 exact ⟨rfl, rfl⟩
theorem results_wr (tmps : Array Value) (w : World) (eb : Nat) (n : Int) (h6 : tmps.getD 6 undef = .pointer (some ⟨eb, 0, none⟩)) (he : Blk w eb 24 #[.int .i64 n]) :
  (results Tryz.f101 tmps).run Tryz.prog w = .ok (.int .i64 n) w := by
 have h6' : tmps[6]?.getD undef = .pointer (some ⟨eb, 0, none⟩) := by simpa using h6
 have c0 : w.cell? ⟨eb, 0, none⟩ = some (.int .i64 n) := he.cell 0
 have hl2 : (loadVar 24 ⟨eb, 0, none⟩).run Tryz.prog w = .ok (.int .i64 n) w := by simp [go_sem, c0]
 simp [results, h6', asAddr, hl2]
theorem ck_none : ¬ CK .other none := fun h => h.1 rfl
theorem Fx.setnew {C : Tag -> Role -> Prop} {G G' : Gh} {w w' : World} (h : Fx C G G' w w') {b : Nat} (hb : w.heap.size <= b) (i : Nat) (v : Value) : Fx C G G' w (w'.setCell ⟨b, i, none⟩ v) :=
 ⟨h.os, h.tape, h.output, by rw [size_set]; exact h.size, fun j hj hn => (Below.heap_setCell _ _ _ _ (by rintro rfl; exact absurd hj (by simp; omega))).trans (h.keep j hj hn), h.ow, h.rl⟩
set_option maxHeartbeats 8000000 in
theorem write_any (w : World) (G : Gh) (d : Nat) (q : Int) (l : List Fil) (no L : Nat) (h : DK w G d q l no L) (hf : Fin G w) (hno : no + 3 <= 1099511627776) (hL : L + 2 <= 1073741824) (hl : l.length < 65536)
  (topic seg size : Int) (es : List HE) (H : ∀ x ∈ es, x.Ok) (hes : es.length <= 65536) (h1 : okNum topic = true) (h2 : okNum seg = true) (z0 : 38 <= size) (z1 : size <= 65536) (hr : rightB size es = true) (A : Option Addr) (c : Nat) (hA : HesAt w A es) (ht : Tab w)
  (hs : ∀ y ∈ l, y.name ≠ Sb (hintN topic seg)) (hu : (sumF l + (hencL seg size es).length : Nat) <= q) :
  Calls Tryz.prog 101 #[.pointer (some ⟨d, 0, none⟩), .int .i64 topic, .agg (hintC seg size A es.length c)] w fun e w' => ∃ f, w.heap.size <= f /\ DkOut w G d q (⟨Sb (hintN topic seg), f, fNew (hencL seg size es)⟩ :: l) (no + 3) (L + 2) (.int .i64 0) e w' := by
 have hg : 0 <= seg /\ seg < 1073741824 := by simpa [okNum] using h2
 have HE := hid (fun W (hb : Below w.heap.size w W) => hencode_any W seg size es H hes hg.1 hg.2 z0 z1 A c (hA.below hb))
 have HNM := hid (fun W (hb : Below w.heap.size w W) => hname_any W topic seg h1 h2 (tab_below ht hb))
 have hgn := good_hint h1 h2
 have HLN := hencL_len seg size es (fun x hx => (H x hx).k1) hes
 have hn1 := fun w => good_any w topic
 unfold okNum at h1
 rw [h1] at hn1
 have HRB := hid hr
 have HK := hid h
 have HF := hid hf
 have HBD : Hid (no + 3 <= 1099511627776 /\ L + 2 <= 1073741824 /\ l.length < 65536) := hid ⟨hno, hL, hl⟩
 have HS := hid hs
 have HU := hid hu
 have HGN := hid hgn
 have HBL := hid HLN
 clear H hA hes h1 h2 z0 z1 hr ht h hf hno hL hl hs hu hgn hg HLN
 obtain ⟨b, hb⟩ : ∃ b, hencL seg size es = b := ⟨_, rfl⟩
 obtain ⟨nm, hnm⟩ : ∃ b, Sb (hintN topic seg) = b := ⟨_, rfl⟩
 unfold HEnc at HE
 rw [hb] at HE HU HBL ⊢
 rw [hnm] at HNM HS HGN ⊢
 clear hb hnm
 unfold hintC at HE ⊢
 obtain ⟨W, hW⟩ : ∃ y, ((w.alloc (.cells #[.pointer (some ⟨d, 0, none⟩)] 23)).alloc (.cells #[.int .i64 seg, .int .i64 size, .slice A es.length c] 193)).alloc (.cells #[.int .i64 0] 24) = y := ⟨_, rfl⟩
 have HBW : Hid (Below w.heap.size w W) := by rw [<- hW]; exact hid ((((Below.refl _ _).alloc (Nat.le_refl _) _).alloc (by simp) _).alloc (by simp; omega) _)
 have HB0 : Hid (BlkR W G w.heap.size 23 #[.pointer (some ⟨d, 0, none⟩)] none) := by rw [<- hW]; exact hid ⟨((Blk.new w _ _).alloc _).alloc _, HF.out _ (Nat.le_refl _)⟩
 have HB1 : Hid (Blk W (w.heap.size + 1) 193 #[.int .i64 seg, .int .i64 size, .slice A es.length c]) := by
  rw [<- hW]
  have := (Blk.new (w.alloc (.cells #[.pointer (some ⟨d, 0, none⟩)] 23)) 193 #[.int .i64 seg, .int .i64 size, .slice A es.length c]).alloc (.cells #[.int .i64 0] 24)
  rw [World.size_alloc] at this
  exact hid this
 have HB2 : Hid (BlkR W G (w.heap.size + 1 + 1) 24 #[.int .i64 0] none) := by
  rw [<- hW]
  have := Blk.new ((w.alloc (.cells #[.pointer (some ⟨d, 0, none⟩)] 23)).alloc (.cells #[.int .i64 seg, .int .i64 size, .slice A es.length c] 193)) 24 #[.int .i64 0]
  rw [World.size_alloc, World.size_alloc] at this
  exact hid ⟨this, HF.out _ (by omega)⟩
 have HWZ : Hid (W.heap.size = w.heap.size + 1 + 1 + 1) := by rw [<- hW]; exact hid (by simp)
 have c0 : W.cell? ⟨w.heap.size, 0, none⟩ = some (.pointer (some ⟨d, 0, none⟩)) := (HB0.out.cell 0).trans rfl
 have k0 : W.cell? ⟨w.heap.size + 1, 0, none⟩ = some (.int .i64 seg) := (HB1.out.cell 0).trans rfl
 have k1 : W.cell? ⟨w.heap.size + 1, 1, none⟩ = some (.int .i64 size) := (HB1.out.cell 1).trans rfl
 have k2 : W.cell? ⟨w.heap.size + 1, 2, none⟩ = some (.slice A es.length c) := (HB1.out.cell 2).trans rfl
 go_enter_defers Tryz.func101, Tryz.ntmps101
 go_wp2_with (first
  | (go_at_call 161; with_reducible refine (hn1 _).mono ?_; rintro e w9 ⟨rfl, hw9⟩; rw [hw9]; clear hw9)
  | fail)
 try rw [hW]
 clear hW c0 k0 k1 k2 hn1
 refine (HE.out W HBW.out).mono ?_
 rintro e W1 (⟨-, A1, c1, rfl, o1, hb1⟩ | ⟨hx, -⟩)
 rotate_left
 ·rw [HRB.out] at hx
  cases hx
 have HBW1 : Hid (Below w.heap.size w W1) := hid (HBW.out.trans (hb1.mono HBW.out.size))
 have HO1 : Hid (RowR W1 G 5 1 (.slice A1 b.length c1) b.length (bc b) none) := hid ⟨own_less o1 (Nat.zero_le _), fun g hg => HF.out g (Nat.le_trans HBW.out.size (o1.lt g hg).1)⟩
 have HB01 := hid (HB0.out.keep (C := CN) (Fx.below hb1) (fun h => h))
 have HB21 := hid (HB2.out.keep (C := CN) (Fx.below hb1) (fun h => h))
 have HB11 := hid (HB1.out.below hb1 HB1.out.lt)
 have f2 : W1.frozen? ⟨w.heap.size + 1 + 1, 0, none⟩ = false := HB21.out.frozen 0
 have k2 : W1.cell? ⟨w.heap.size + 1 + 1, 0, none⟩ = some (.int .i64 0) := (HB21.out.cell 0).trans rfl
 have k0 : W1.cell? ⟨w.heap.size + 1, 0, none⟩ = some (.int .i64 seg) := (HB11.out.cell 0).trans rfl
 clear o1 hb1 HB0 HB1 HB2 HBW HE
 go_wp2_with fail
 obtain ⟨W2, hW2⟩ : ∃ y, W1.setCell ⟨w.heap.size + 1 + 1, 0, none⟩ (.int .i64 0) = y := ⟨_, rfl⟩
 have HBW2 : Hid (Below w.heap.size w W2) := by rw [<- hW2]; exact hid (HBW1.out.setCell (by simp; omega) _)
 have HB02 : Hid (BlkR W2 G w.heap.size 23 #[.pointer (some ⟨d, 0, none⟩)] none) := by rw [<- hW2]; exact hid ⟨HB01.out.1.far (by simp; omega) _, HB01.out.2⟩
 have HB22 : Hid (BlkR W2 G (w.heap.size + 1 + 1) 24 #[.int .i64 0] none) := by rw [<- hW2]; exact hid (HB21.out.set 0 _)
 have HO2 : Hid (RowR W2 G 5 1 (.slice A1 b.length c1) b.length (bc b) none) := by
  rw [<- hW2]
  exact hid ⟨own_set HO1.out.1 (fun e => by
   have ho := HO1.out.1.2
   rcases ho with ⟨_, h0⟩ | ⟨g, cap, cur, hv, _, hg, _⟩
   ·have := HBL.out.1
    omega
   ·rw [hv] at e
    simp only [Value.ownBlock, Option.some.injEq] at e
    subst e
    have := HB21.out.1
    unfold Blk at this
    rw [this] at hg
    simp at hg) _, HO1.out.2⟩
 simp only [hW2]
 clear hW2 f2 k2 k0 HB01 HB21 HO1 HB11 HBW1
 refine (HNM.out W2 HBW2.out).mono ?_
 rintro e W3 ⟨rfl, hb3⟩
 have HBW3 : Hid (Below w.heap.size w W3) := hid (HBW2.out.trans (hb3.mono HBW2.out.size))
 have HB03 := hid (HB02.out.keep (C := CN) (Fx.below hb3) (fun h => h))
 have HB23 := hid (HB22.out.keep (C := CN) (Fx.below hb3) (fun h => h))
 have HO3 := hid (HO2.out.keep (C := CN) (Fx.below hb3) (fun h => h))
 obtain ⟨W4, hW4⟩ : ∃ y, W3.alloc (.cells #[.string nm] 9) = y := ⟨_, rfl⟩
 have HFX3 : Hid (Fx CK G G W3 W4) := by rw [<- hW4]; exact hid (Fx.below ((Below.refl _ _).alloc (Nat.le_refl _) _))
 have HB84 : Hid (BlkR W4 G W3.heap.size 9 #[.string nm] none) := by rw [<- hW4]; exact hid ⟨Blk.new _ _ _, HF.out _ HBW3.out.size⟩
 have HBW4 : Hid (Below w.heap.size w W4) := by rw [<- hW4]; exact hid (HBW3.out.alloc HBW3.out.size _)
 have HB04 := hid (HB03.out.keep HFX3.out ck_none)
 have HB24 := hid (HB23.out.keep HFX3.out ck_none)
 have HO4 := hid (HO3.out.keep HFX3.out ck_none)
 have HK4 := hid (HK.out.below HBW4.out)
 have c0 : W4.cell? ⟨w.heap.size, 0, none⟩ = some (.pointer (some ⟨d, 0, none⟩)) := (HB04.out.cell 0).trans rfl
 have c8 : W4.cell? ⟨W3.heap.size, 0, none⟩ = some (.string nm) := (HB84.out.cell 0).trans rfl
 clear hb3 HB02 HB22 HO2 HBW2 HB03 HB23 HO3 HFX3
 go_wp2_with fail
 clear c0 c8
 refine (dk_create W4 G d q l no L HK4.out (HF.out.more HBW4.out.size) (by have := HBD.out; omega) HBD.out.2.1 nm HGN.out HS.out HBD.out.2.2).mono ?_
 rintro e W5 ⟨f, hfz, G5, rfl, hk5, hx5, hf5, hr5⟩
 have HK5 := hid hk5
 have HX5 := hid hx5
 have HF5 := hid hf5
 have HR5 := hid hr5
 have HFZ : Hid (w.heap.size <= f) := hid (Nat.le_trans HBW4.out.size hfz)
 have HB05 := hid (HB04.out.keep hx5 ck_none)
 have HB25 := hid (HB24.out.keep hx5 ck_none)
 have HB85 := hid (HB84.out.keep hx5 ck_none)
 have HO5 := hid (HO4.out.keep hx5 ck_none)
 have c0 : W5.cell? ⟨w.heap.size, 0, none⟩ = some (.pointer (some ⟨d, 0, none⟩)) := (HB05.out.cell 0).trans rfl
 have c8 : W5.cell? ⟨W3.heap.size, 0, none⟩ = some (.string nm) := (HB85.out.cell 0).trans rfl
 clear hk5 hx5 hf5 hr5 hfz HB04 HB24 HB84 HO4 HK4
 go_wp2_with fail
 clear c0 c8
 refine (dk_append W5 G5 d q ⟨nm, f, ⟨[], [], []⟩⟩ l (no + 1) (L + 2) HK5.out HF5.out (by have := HBD.out; omega) A1 c1 b HBL.out.1 (RB.of_own HO5.out.1) (by have := HU.out; simpa [sumF] using this)).mono ?_
 rintro e W6 ⟨G6, rfl, hk6, hx6, hf6, hr6⟩
 have HK6 := hid hk6
 have HX6 := hid (HX5.out.trans hx6)
 have HF6 := hid hf6
 have HR6 := hid (hr6.trans HR5.out)
 have HB06 := hid (HB05.out.keep hx6 ck_none)
 have HB26 := hid (HB25.out.keep hx6 ck_none)
 have HB86 := hid (HB85.out.keep hx6 ck_none)
 have c0 : W6.cell? ⟨w.heap.size, 0, none⟩ = some (.pointer (some ⟨d, 0, none⟩)) := (HB06.out.cell 0).trans rfl
 have c8 : W6.cell? ⟨W3.heap.size, 0, none⟩ = some (.string nm) := (HB86.out.cell 0).trans rfl
 clear hk6 hx6 hf6 hr6 HB05 HB25 HB85 HO5 HK5 HX5 HF5 HR5
 go_wp2_with fail
 clear c0 c8
 refine (dk_sync W6 G6 d q ⟨nm, f, fApp ⟨[], [], []⟩ b⟩ l (no + 2) (L + 2) HK6.out HF6.out (by have := HBD.out; omega)).mono ?_
 rintro e W7 ⟨G7, rfl, hk7, hx7, hf7, hr7⟩
 have HK7 := hid hk7
 have HX7 := hid (HX6.out.trans hx7)
 have HF7 := hid hf7
 have HR7 := hid (hr7.trans HR6.out)
 have HB27 := hid (HB26.out.keep hx7 ck_none)
 have f2 : W7.frozen? ⟨w.heap.size + 1 + 1, 0, none⟩ = false := HB27.out.frozen 0
 have k2 : W7.cell? ⟨w.heap.size + 1 + 1, 0, none⟩ = some (.int .i64 0) := (HB27.out.cell 0).trans rfl
 clear hk7 hx7 hf7 hr7 HB06 HB26 HB86 HK6 HX6 HF6 HR6
 go_wp2_with fail
 have hb8 : BlkR (W7.setCell ⟨w.heap.size + 1 + 1, 0, none⟩ (.int .i64 0)) G7 (w.heap.size + 1 + 1) 24 #[.int .i64 0] none := HB27.out.set 0 _
 refine leaves_cons (f := 163) (args := #[.pointer (some ⟨w.heap.size + 1 + 1, 0, none⟩), .pointer (some ⟨w.heap.size, 0, none⟩), .pointer (some ⟨W3.heap.size, 0, none⟩)]) (by simp) (by simp [go_sem]) ?_
 refine (clo_free _ (w.heap.size + 1 + 1) w.heap.size W3.heap.size ((hb8.cell 0).trans rfl)).mono ?_
 rintro e u' wz ⟨rfl, rfl, rfl⟩
 refine ⟨_, results_wr _ _ (w.heap.size + 1 + 1) 0 rfl hb8.1, f, HFZ.out, G7, rfl, HK7.out.keep (Fx.set 0 _ HB27.out.2) (fun t r h => h.1) (fun i hi => (HF7.out i hi).1), ?_, HF7.out.more (by rw [size_set]; exact Nat.le_refl _), HR7.out⟩
 exact Fx.setnew ((Fx.below HBW4.out).trans HX7.out) (by omega) 0 _
end Go.Proofs.YtendlmdmbkcdnaaGreatDoor.hi
namespace Go.Proofs.YtendlmdmbkcdnaaGreatDoor.dd
open Go.RowKit Go.Maps Go.WideMaps oc
open Go.Lib (hid)
set_option maxRecDepth 100000
def pA (c : Int × Int × Int) : Value := .agg #[.int .i64 c.1, .int .i64 c.2.1, .int .i64 c.2.2]
theorem pA_inv (v : Value) (y : DataW Unit × List MemPlace) (h : prodR v = some y) : ∃ c, v = pA c := by
 unfold prodR at h
 split at h
 ·exact ⟨(_, _, _), rfl⟩
 ·cases h
theorem prodR_pA (c : Int × Int × Int) : prodR (pA c) = some (prodD c.1 c.2.1 c.2.2, []) := rfl
theorem kI_inv (key : Value) (kl : Lit) (h : keyOf Tryz.prog 2 key = some kl) : ∃ x, key = Value.int .i64 x := by
 obtain ⟨x, rfl, _⟩ := Maps.keyOf_int_inv Tryz.underlying2 h
 exact ⟨x, rfl⟩
theorem grown_alloc (w : World) (y : Obj) (row : Option Nat) : w.grownBy (w.alloc y) row := ⟨rfl, rfl, rfl, by simp, fun k hk _ => Below.heap_alloc w y k hk⟩
set_option maxHeartbeats 4000000 in
theorem copy_any (w : World) (bd bs ns : Nat) (D : DataW Unit) (hd : w.ownsMap Tryz.prog 2 prodR bd 0 (.map [])) (hs : w.ownsMap Tryz.prog 2 prodR bs ns D) (hne : bd ≠ bs) (hmax : Maps.size D <= maxLen) :
  Calls Tryz.prog 142 #[.map (some bd), .map (some bs)] w fun e w' => e = .returned (.tuple #[]) /\ w'.ownsMap Tryz.prog 2 prodR bd (Maps.size D) D /\ w.grownBy w' (some bd) := by
 have hbl := hs.lt
 have hbd := hd.lt
 go_enter Tryz.func142, Tryz.ntmps142
 go_wp2_with (first
  | (at_range; refine wpList_range_own _ rfl _ 210 rfl 2 208 lawI Tryz.underlying210 _ bs ns _ rfl hs ?_; intro w0 hrg0 hg0 hs0)
  | fail)
 go_frame
 go_loopw [4] (fun _ wr => ∃ (left : Lit -> Bool) (cnt : Nat) (Dout : DataW Unit), wr.ranges Tryz.prog 2 prodR bs w.heap.size ns D left cnt /\ cnt <= Maps.size D /\
   wr.ownsMap Tryz.prog 2 prodR bd (Maps.size D - cnt) Dout /\ Agree Dout D left /\ w.grownBy wr (some bd) /\ w.heap.size < wr.heap.size)
  (fun _ wr => wr.rangeLeft bs w.heap.size)
 case atStart =>
  exact ⟨_, _, .map [], hrg0, Nat.le_refl _, (hd.kept hg0 (by simp)).mono (Nat.zero_le _), agree_start D, hg0.but _, by rw [hs0]; omega⟩
 case round =>
  obtain ⟨left, cnt, Dout, hrg, hcs, hout, hA, hnx, hsz⟩ := hrel
  go_wp2_with (first
   | (at_next; refine wpList_next_ranges _ rfl _ rfl 2 lawI prodR (Value.int .i64) pA kI_inv pA_inv bs w.heap.size ns _ _ _ rfl hrg ?_ ?_)
   | fail)
  ·intro hc0 hl0
   go_wp2_with fail
   go_end0
   subst hc0
   have e := agree_end hA hl0 (hout.canon lawI) (hs.canon lawI)
   subst e
   exact ⟨rfl, by simpa using hout, hnx⟩
  ·intro x c1 c2 c3 kl y1 y2 w1 cnt1 hwx hlx hy hat hrg1 hlt hg1 hs1 hen
   dsimp only [pA] at hen ⊢
   have hy2 := (prodR_pA (c1, c2, c3)).symm.trans hy
   simp only [Option.some.injEq, Prod.mk.injEq] at hy2
   obtain ⟨rfl, rfl⟩ := hy2
   clear hy
   have hout1 := hout.kept hg1 (by simp; omega)
   go_wp2_with (first
    | (at_mapUpdate; refine wpList_mapUpdate_own _ rfl _ _ _ 210 rfl 2 208 lawI Tryz.underlying210 _ bd _ _ rfl (hout1.alloc _) (by omega) _ _ _ rfl rfl hwx _ [] (prodR_pA (c1, c2, c3)) ?_; intro w2 hout2 hg2; go_frame)
    | fail)
   have hrg2 := (hrg1.alloc (.cells #[.int .i64 c1, .int .i64 c2, .int .i64 c3] 208)).kept hg2 (fun e => by have := Option.some.inj e; omega) (fun e => by have := Option.some.inj e; omega)
   go_roundw
   case rel =>
    refine ⟨_, cnt1, _, hrg2, by omega, hout2.mono (by omega), agree_step hA hout.isMap (by obtain ⟨x', e, rfl, _⟩ := Maps.keyOf_int_inv Tryz.underlying2 hwx; trivial) hat, ?_, ?_⟩
    ·refine (hnx.andThen hg1 (fun j hj => by cases hj; exact Or.inl (Nat.le_refl _))).trans ?_
     exact grownBy_tr (grown_alloc w1 _ _) hg2
    ·have := hg2.size
     simp at this
     omega
   case measure => rw [hrg2.left_eq, hrg.left_eq]; exact hlt
set_option maxHeartbeats 4000000 in
theorem clone_any (w : World) (t m n : Nat) (D : DataW Unit) (h : TabAt w t m n D) (hn : Maps.size D <= maxLen) :
  Calls Tryz.prog 83 #[.pointer (some ⟨t, 0, none⟩)] w fun e w' => e = .returned (.pointer (some ⟨w.heap.size + 1, 0, none⟩)) /\ TabAt w' (w.heap.size + 1) w.heap.size (Maps.size D) D /\ Below w.heap.size w w' := by
 have hmm := @run_makeMap Tryz.prog
 obtain ⟨W, hW⟩ : ∃ y, (w.alloc (.map #[] 0)).alloc (.cells #[.map (some w.heap.size)] 212) = y := ⟨_, rfl⟩
 have HBW : Hid (Below w.heap.size w W) := by rw [<- hW]; exact hid (((Below.refl _ _).alloc (Nat.le_refl _) _).alloc (by simp) _)
 have HM : Hid (W.ownsMap Tryz.prog 2 prodR w.heap.size 0 (.map [])) := by rw [<- hW]; exact hid ((World.ownsMap_made _ _ _ _).alloc _)
 have HB : Hid (Blk W (w.heap.size + 1) 212 #[.map (some w.heap.size)]) := by
  rw [<- hW]
  have := Blk.new (w.alloc (.map #[] 0)) 212 #[.map (some w.heap.size)]
  rw [World.size_alloc] at this
  exact hid this
 have HS : Hid (TabAt W t m n D) := hid (h.below HBW.out)
 have HN := hid hn
 have HL : Hid (m < w.heap.size) := hid h.2.lt
 have c0 : W.cell? ⟨w.heap.size + 1, 0, none⟩ = some (.map (some w.heap.size)) := (HB.out.cell 0).trans rfl
 have c1 : W.cell? ⟨t, 0, none⟩ = some (.map (some m)) := (HS.out.1.cell 0).trans rfl
 clear h hn
 go_enter Tryz.func83, Tryz.ntmps83
 go_wp2_with fail
 try rw [hW]
 have k0 := fun d' os => cell_regrown c0 d' os
 have k1 := fun d' os => cell_regrown c1 d' os
 clear hW c0 c1 hmm
 refine wp_quiet_tail 8 (by kernel_rfl) (by kernel_rfl) (by kernel_rfl) ?_
 simp only [List.take, List.drop]
 repeat (first | go_big_quiet_skip | (go_big_quiet_want; go_big_quiet_op; go_big_quiet_on))
 refine wpQuiet_nil ?_
 intro W1 hw'
 obtain ⟨⟨dq, osq⟩, hw''⟩ := hw'
 have hb1 : Below W.heap.size W W1 := by rw [hw'']; exact below_regrown W dq osq
 have HB1 : Hid (Below w.heap.size w W1) := hid (HBW.out.trans (hb1.mono HBW.out.size))
 have HM1 := hid (map_keepH HM.out (hb1.block _ HM.out.lt))
 have HK1 := hid (HB.out.below hb1 HB.out.lt)
 have HS1 := hid (HS.out.below hb1)
 clear hw'' hb1 k0 k1 HBW HM HB HS
 go_wp2_with fail
 refine (copy_any W1 w.heap.size m n D HM1.out HS1.out.2 (by have := HL.out; omega) HN.out).mono ?_
 rintro e W2 ⟨rfl, hm2, hg2⟩
 have HM2 := hid hm2
 have HB2 : Hid (Below w.heap.size w W2) := hid (HB1.out.grown hg2 HB1.out.size (fun k hk => by injection hk with hk; omega))
 have HK2 := hid (HK1.out.grown hg2 (by simp))
 clear hm2 hg2
 go_wp2_with fail
 go_ret
 exact ⟨rfl, ⟨HK2.out, HM2.out⟩, HB2.out⟩
end Go.Proofs.YtendlmdmbkcdnaaGreatDoor.dd
namespace Go.Proofs.YtendlmdmbkcdnaaGreatDoor.dd
open Go.RowKit Go.Maps Go.WideMaps Go.Sort Go.Shelf oc
set_option maxRecDepth 100000
theorem sorts_l (m : Nat) : AnyZI.SortsIn Tryz.prog Tryz.sortedI_ren Fence.wide m :=
  ⟨fun blk off cap ss W hH hblk hsz => callsIn_wide.2 (AnyM.slices_Sort_int Tryz.sortL blk off cap ss W hH hblk hsz),
   fun p cap W => callsIn_wide.2 (AnyM.slices_Sort_int_none Tryz.sortL p cap W)⟩
theorem keys_is (mb : Option Nat) (W : World) : Calls Tryz.prog 203 #[.map mb] W fun e w' => e = .returned (.func (.func 242) #[] #[.pointer (some ⟨W.heap.size, 0, none⟩)]) /\ w' = W.alloc (.cells #[.map mb] 210) :=
 (callsIn_wide (n := 5)).1 (AnyZI.keys_in Tryz.keysI Fence.wide 5 trivial rfl mb W)
theorem sorted_is (b nn : Nat) (D : DataW Unit) (R : Value -> Option (DataW Unit × List MemPlace)) (w : World) (hown : w.ownsMap Tryz.prog 2 R b nn D) (hmax : Maps.size D <= maxLen) (hbytes : Maps.size D * 8 <= 140737488355328) :
  Calls Tryz.prog 202 #[.func (.func 242) #[] #[.pointer (some ⟨w.heap.size, 0, none⟩)]] (w.alloc (.cells #[.map (some b)] 210)) fun e w' => ∃ (v : Value) (ss : List Int), e = .returned v /\ ss.Perm (intKeys D) /\
   w'.ownsRow w.heap.size 2 1 v ss.length ((ss.mergeSort (fun x y => decide (x <= y))).map encZ) /\ (v = .slice none 0 0 ↔ ss = []) /\ Below w.heap.size w w' := by
 have hbl := hown.lt
 have hseq : SeqGives Fence.wide 2 Tryz.prog 242 #[.pointer (some ⟨w.heap.size, 0, none⟩)] encZ (fun ss => ss.Perm (intKeys D)) (Maps.size D) (w.alloc (.cells #[.map (some b)] 210)) :=
  AnyZI.keys_gives (ρ := Tryz.keysI_ren) { Tryz.keysI with } Fence.wide _ trivial rfl (by omega) w.heap.size b nn D _ (by simp) (by simp) (hown.alloc _)
 have cS := AnyZI.sorted_in Tryz.sortedI Fence.wide 5 trivial trivial trivial trivial rfl (by omega) (sorts_l _) (enters_of Tryz.func241 (by kernel_rfl) rfl) 242 #[.pointer (some ⟨w.heap.size, 0, none⟩)] trivial (enters_of Tryz.func242 (by kernel_rfl) rfl) _ _ hmax hbytes _ hseq
 refine ((callsIn_wide (n := 5)).1 cS).mono ?_
 rintro e w' ⟨v, ss, rfl, hS, hrow, hnil, hb⟩
 exact ⟨v, ss, rfl, hS, ownsRow_base_a hrow (by simp), hnil, ((Below.refl _ w).alloc (Nat.le_refl _) _).trans (hb.mono (by simp))⟩
theorem keys_facts {w : World} {b n : Nat} {D : DataW Unit} {R : Value -> Option (DataW Unit × List MemPlace)} (h : w.ownsMap Tryz.prog 2 R b n D) :
  (intKeys D).Nodup /\ (∀ x ∈ intKeys D, Maps.has D (.int .i64 x) = true) /\ (intKeys D).length = Maps.size D := by
 obtain ⟨es, hD, hpw, _⟩ := h.entries lawI
 obtain ⟨es', hD', hko⟩ := h.keysOf
 obtain rfl : es = es' := by rw [hD] at hD'; simpa using hD'
 subst hD
 have hk : ∀ p ∈ es, ∃ x, p.1 = .int .i64 x := fun p hp => by
  obtain ⟨v, hv⟩ := hko p hp
  obtain ⟨x, _, hx, _⟩ := Maps.keyOf_i64 Tryz.underlying2 hv
  exact ⟨x, hx⟩
 refine ⟨?_, fun x hx => ?_, ?_⟩
 ·show (es.map fun p => Go.intOf p.1).Nodup
  refine List.pairwise_map.2 (hpw.imp_of_mem fun {p q} hp' hq' hne e => hne ?_)
  obtain ⟨a, ha⟩ := hk p hp'
  obtain ⟨b, hb⟩ := hk q hq'
  rw [ha, hb] at e ⊢
  exact congrArg _ e
 ·obtain ⟨p, hp', rfl⟩ := List.mem_map.1 hx
  obtain ⟨a, ha⟩ := hk p hp'
  rw [has_eq, List.any_eq_true]
  exact ⟨p, hp', by rw [ha]; simp [Lit.sameKey, Go.intOf]⟩
 ·show (es.map fun p => Go.intOf p.1).length = _
  rw [List.length_map]
  rfl
end Go.Proofs.YtendlmdmbkcdnaaGreatDoor.dd
namespace Go.Proofs.YtendlmdmbkcdnaaGreatDoor.dd
open Go.RowKit Go.Maps Go.WideMaps Go.Sort Go.Shelf oc ma
open Go.Lib (hid)
set_option maxRecDepth 100000
def prC (p : PrS) : List Value := [.int .i64 (p.pid : Int), .int .i64 (p.seq : Int), .int .i64 (p.off : Int)]
theorem prC_len (l : List PrS) : (l.flatMap prC).length = l.length * 3 := by
 induction l with
 | nil => rfl
 | cons x l ih => simp only [List.flatMap_cons, List.length_append, ih, prC, List.length_cons, List.length_nil]; omega
def TabOk (D : DataW Unit) (nx : Nat) : Prop := Maps.size D <= 64 /\ ∀ x : Int, Maps.has D (.int .i64 x) = true -> ∃ s o : Nat, D.atKey (key x) (prodD 0 0 0) = prodD x s o /\ 1 <= x /\ x < 4294967296 /\ 1 <= s /\ s < 1099511627776 /\ o < nx
structure ProdsOk (nx : Nat) (ps : List PrS) : Prop where
 rise : ∀ (i : Nat) p r, ps[i]? = some p -> ps[i + 1]? = some r -> p.pid < r.pid
 each : ∀ p ∈ ps, 1 <= p.pid /\ p.pid < 4294967296 /\ 1 <= p.seq /\ p.seq < 1099511627776 /\ p.off < nx
theorem prs_of {D : DataW Unit} {nx : Nat} (H : TabOk D nx) : ∀ ks : List Int, (∀ x ∈ ks, Maps.has D (.int .i64 x) = true) -> ∃ ps : List PrS, ps.map (fun p => (p.pid : Int)) = ks /\ ∀ p ∈ ps, Knows D p.pid true p.pid p.seq p.off /\ 1 <= p.pid /\ p.pid < 4294967296 /\ 1 <= p.seq /\ p.seq < 1099511627776 /\ p.off < nx
 | [], _ => ⟨[], rfl, fun p hp => by cases hp⟩
 | x :: ks, h => by
  obtain ⟨ps, h1, h2⟩ := prs_of H ks (fun y hy => h y (List.mem_cons_of_mem _ hy))
  obtain ⟨s, o, ha, hx0, hx1, hs0, hs1, ho⟩ := H.2 x (h x List.mem_cons_self)
  have hx : ((x.toNat : Nat) : Int) = x := by omega
  refine ⟨⟨x.toNat, s, o⟩ :: ps, by rw [List.map_cons, h1, hx], fun p hp => ?_⟩
  rcases List.mem_cons.1 hp with rfl | hp
  ·exact ⟨⟨by show D.atKey (key ((x.toNat : Nat) : Int)) _ = prodD ((x.toNat : Nat) : Int) _ _; rw [hx]; exact ha, by show Maps.has D (.int .i64 ((x.toNat : Nat) : Int)) = true; rw [hx]; exact h x List.mem_cons_self⟩, by show 1 <= x.toNat; omega, by show x.toNat < _; omega, hs0, hs1, ho⟩
  ·exact h2 p hp
theorem prods_rise {ss : List Int} (hn : ss.Nodup) {ps : List PrS} (h : ps.map (fun p => (p.pid : Int)) = ss.mergeSort (fun x y => decide (x <= y))) : ∀ (i : Nat) p r, ps[i]? = some p -> ps[i + 1]? = some r -> p.pid < r.pid := by
 have tr : ∀ a b c : Int, decide (a <= b) = true -> decide (b <= c) = true -> decide (a <= c) = true := fun a b c h1 h2 => by simp only [decide_eq_true_eq] at *; exact Int.le_trans h1 h2
 have to_ : ∀ a b : Int, (decide (a <= b) || decide (b <= a)) = true := fun a b => by simp only [Bool.or_eq_true, decide_eq_true_eq]; exact Int.le_total a b
 have hs := List.pairwise_mergeSort tr to_ ss
 have hn2 : (ss.mergeSort (fun x y => decide (x <= y))).Nodup := (List.mergeSort_perm ss _).nodup_iff.2 hn
 rw [<- h] at hs hn2
 intro i p r hp hr
 obtain ⟨h1, rfl⟩ := List.getElem?_eq_some_iff.1 hp
 obtain ⟨h2, rfl⟩ := List.getElem?_eq_some_iff.1 hr
 have a1 := (List.pairwise_iff_getElem.1 hs) i (i + 1) (by simpa using h1) (by simpa using h2) (by omega)
 have a2 := (List.pairwise_iff_getElem.1 hn2) i (i + 1) (by simpa using h1) (by simpa using h2) (by omega)
 simp only [List.getElem_map, decide_eq_true_eq, ne_eq] at a1 a2
 omega
theorem cells_new (w : World) (t : TypeId) (l : List Value) : ∀ (j : Nat) (u : Value), l[j]? = some u -> (w.alloc (.cells l.toArray t)).cell? (Addr.add ⟨w.heap.size, 0, none⟩ j) = some u := fun j u hj => by
 rw [add_flat, Nat.zero_add, (Blk.new w t l.toArray).cell]
 simpa using hj
theorem infoP : (Tryz.prog.info? 208).map (fun i => (i.zero, i.size, i.bytes)) = some (some (.agg #[.int .i64 0, .int .i64 0, .int .i64 0]), 3, 24) := by kernel_rfl
theorem own_cell {w : World} {B n : Nat} {t : TypeId} {v : Value} {xs : List Value} (h : w.ownsRow B t 1 v n xs) {j : Nat} {u : Value} (hj : xs[j]? = some u) : ∃ g cap, v = .slice (some ⟨g, 0, none⟩) n cap /\ g < w.heap.size /\ w.cell? ⟨g, j, none⟩ = some u := by
 have hlen : j < xs.length := (List.getElem?_eq_some_iff.1 hj).1
 have h1 := h.1
 obtain ⟨g, cap, rfl, _, hlt⟩ := h.form (by omega)
 have := h.cells (g := g) rfl j u hj
 rw [add_flat, Nat.zero_add] at this
 exact ⟨g, cap, rfl, hlt, this⟩
theorem look1 {W : World} {m n : Nat} {D : DataW Unit} (h : W.ownsMap Tryz.prog 2 prodR m n D) {pid a s o : Int} {known : Bool} (h0 : -9223372036854775808 <= pid) (h1 : pid <= 9223372036854775807) (he : Knows D pid known a s o) : (Instr.lookup 210 (.map (some m)) (.int .i64 pid) false).run Tryz.prog W = .ok (.agg #[.int .i64 a, .int .i64 s, .int .i64 o]) W := by
 obtain ⟨v, ps, hr, hv⟩ := h.lookup lawI Tryz.underlying210 (zeroP W) (zd := prodD 0 0 0) (zp := []) rfl (kl := key pid) (key := .int .i64 pid) (keyI pid h0 h1)
 rw [he.1] at hv
 obtain rfl := prodR_of hv
 exact hr
set_option maxHeartbeats 8000000 in
theorem list_any (w : World) (t m n : Nat) (D : DataW Unit) (nx : Nat) (h : TabAt w t m n D) (H : TabOk D nx) :
  Calls Tryz.prog 156 #[.pointer (some ⟨t, 0, none⟩)] w fun e w' => ∃ A c ps, e = .returned (.slice A (List.length ps) c) /\ w'.ownsRow w.heap.size 208 3 (.slice A ps.length c) ps.length (ps.flatMap prC) /\ ProdsOk nx ps /\ ps.length <= 64 /\ Below w.heap.size w w' := by
 obtain ⟨i0, hi, hz0, hz1, hz2⟩ := info_parts infoP
 have HKF := hid (keys_facts h.2)
 have HH := hid H
 have HT := hid h
 have HSO := hid (sorted_is m n D prodR w h.2 (by have := H.1; unfold maxLen; omega) (by have := H.1; omega))
 have c0 : w.cell? ⟨t, 0, none⟩ = some (.map (some m)) := (h.1.cell 0).trans rfl
 clear h H
 go_enter Tryz.func156, Tryz.ntmps156
 go_wp2_with fail
 clear c0
 refine (keys_is (some m) w).mono ?_
 rintro e w1 ⟨rfl, rfl⟩
 go_wp2_with fail
 refine HSO.out.mono ?_
 rintro e w2 ⟨v, ss, rfl, hp, ho, -, hb⟩
 obtain ⟨ks, hks⟩ : ∃ ks, ss.mergeSort (fun x y => decide (x <= y)) = ks := ⟨_, rfl⟩
 have hkl : ks.length = ss.length := by rw [<- hks]; exact List.length_mergeSort ss
 obtain ⟨ps, hps1, hps2⟩ := prs_of HH.out ks (fun x hx => HKF.out.2.1 x (hp.mem_iff.1 ((List.mergeSort_perm ss _).mem_iff.1 (hks ▸ hx))))
 have hpl : ps.length = ks.length := by rw [<- hps1]; simp
 have hp64 : ps.length <= 64 := by
  have h1 := hp.length_eq
  have h2 := HKF.out.2.2
  have h3 := HH.out.1
  omega
 have HPS : Hid (ProdsOk nx ps /\ ps.length <= 64 /\ ∀ p ∈ ps, Knows D p.pid true p.pid p.seq p.off) := hid ⟨⟨prods_rise (hp.nodup_iff.2 HKF.out.1) (hps1.trans hks.symm), fun p hp => (hps2 p hp).2⟩, hp64, fun p hp => (hps2 p hp).1⟩
 rw [hks, <- hps1, <- hkl, <- hpl, List.map_map] at ho
 obtain ⟨VA, vc, rfl⟩ := own_slice ho
 have HO2 := hid ho
 have HB2 := hid hb
 clear hp hks hkl hps1 hps2 hpl hp64 ho hb HKF HSO
 go_wp2_with fail
 have HVL : Hid (∀ j, Value.ownBlock (.slice VA ps.length vc) = some j -> j < w2.heap.size /\ w.heap.size <= j) := hid (fun j hj => ⟨(HO2.out.lt j hj).2, (HO2.out.lt j hj).1⟩)
 have HW2 : Hid (w.heap.size <= w2.heap.size) := hid HB2.out.size
 go_loopw [3, 15] (fun v i wr => ∃ (k : Nat) (A : Option Addr) (c : Nat), k <= ps.length /\ i = .int .i64 (k : Int) /\ v = .slice A k c /\ Hid (wr.ownsRow w2.heap.size 208 3 (.slice A k c) k ((ps.take k).flatMap prC)) /\ Hid (wr.ownsRow w.heap.size 2 1 (.slice VA ps.length vc) ps.length (ps.map (encZ ∘ fun p => (p.pid : Int)))) /\ Hid (Below w.heap.size w wr) /\ Hid (w2.heap.size <= wr.heap.size)) (fun _ i _ => ps.length - (intOf i).toNat)
 case atStart => exact ⟨0, none, 0, Nat.zero_le _, rfl, rfl, hid (World.ownsRow_nil _ _ _ _), HO2, HB2, hid (Nat.le_refl _)⟩
 case round =>
  obtain ⟨k, A, c, hk, rfl, rfl, HRk, HVk, HBk, HWk⟩ := hrel
  clear HO2 HB2
  by_cases hlt : k < ps.length
  ·obtain ⟨p, hp⟩ : ∃ x, ps[k]? = some x := ⟨_, List.getElem?_eq_getElem hlt⟩
   obtain ⟨g, cap, hv, hgl, e0⟩ := own_cell HVk.out (j := k) (u := .int .i64 (p.pid : Int)) (by simp [hp])
   simp only [Value.slice.injEq, true_and] at hv
   obtain ⟨rfl, rfl⟩ := hv
   have hm := List.mem_of_getElem? hp
   have hkn := HPS.out.2.2 p hm
   have hpb := HPS.out.1.each p hm
   have htk := take_succ_some hp
   have HT1 := HT.out.below HBk.out
   have hlk := look1 HT1.2 (by omega) (by omega) hkn
   have c0 : wr.cell? ⟨t, 0, none⟩ = some (.map (some m)) := (HT1.1.cell 0).trans rfl
   have i3 : IntKind.i64.wrap ((k : Int) + 1) = (k : Int) + 1 := by have := HPS.out.2.1; rw [IntKind.wrap_i64]; omega
   have HTK : Hid ((ps.take (k + 1)).flatMap prC = (ps.take k).flatMap prC ++ prC p) := hid (by rw [htk]; simp)
   have HLN : Hid (k + 1 <= 64) := hid (by have := HPS.out.2.1; omega)
   have HMX : Hid (k + 1 <= maxLen) := hid (by have := HLN.out; unfold maxLen; omega)
   have HLM : Hid ((k + 1) * 24 <= 140737488355328) := hid (by have := HLN.out; omega)
   have HWB : Hid (w.heap.size <= wr.heap.size) := hid HBk.out.size
   have HWK := hid HWk.out
   clear hp hm hkn hpb htk HT1 HWk
   go_wp2_with (first
    | (at_builtin; go_must (refine wpList_append_own_at _ rfl _ _ 65 rfl w2.heap.size 208 i0 _ 3 24 Tryz.underlying65 hi hz0 hz1 hz2 rfl (by decide) (.slice A k c) k _ rfl (HRk.out.alloc _) ⟨wr.heap.size, 0, none⟩ 1 1 (prC p) rfl rfl (cells_new _ _ (prC p)) (by simp [prC, Value.oneCell']) HMX.out HLM.out (Nat.le_trans HWK.out (by simp)) ?_; intro v3 w3 hown3 hgr3 _ hloc3; obtain ⟨A3, c3, rfl⟩ := own_slice hown3; have HO3 := hid hown3; have HG3 := hid hgr3; clear hown3 hgr3 hloc3))
    | fail)
   have HB3 : Hid (Below w.heap.size w w3) := hid ((HBk.out.alloc HWB.out _).grown HG3.out (Nat.le_trans HWB.out (by simp)) (fun j hj => Nat.le_trans HW2.out (HRk.out.lt j hj).1))
   have HV3 : Hid (w3.ownsRow w.heap.size 2 1 (.slice (some ⟨g, 0, none⟩) ps.length vc) ps.length (ps.map (encZ ∘ fun p => (p.pid : Int)))) := hid (own_keepH (HVk.out.alloc _) (fun j hj => HG3.out.block j (by simp only [Value.ownBlock, Option.some.injEq] at hj; subst hj; simp; omega) (fun e => by have h1 := (HRk.out.lt j (by simpa using e.symm)).1; have h2 := (HVL.out j hj).1; omega)))
   go_roundw
   case rel => exact ⟨k + 1, A3, c3, by omega, by go_num, rfl, by rw [HTK.out]; exact HO3, HV3, HB3, hid (Nat.le_trans HWK.out (Nat.le_trans (by simp) HG3.out.size))⟩
   case measure => simp [intOf]; omega
  ·obtain rfl : k = ps.length := by omega
   go_wp2_with fail
   go_ret
   exact ⟨A, c, ps, rfl, by have := own_less HRk.out HW2.out; rwa [List.take_length] at this, HPS.out.1, HPS.out.2.1, HBk.out⟩
end Go.Proofs.YtendlmdmbkcdnaaGreatDoor.dd
