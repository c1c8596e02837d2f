/-
  Texts of the proof joined by a program: Pal Pam.
-/
import Derived.Test.YtendlmdmbkcdnaaGreatDoorWbj
import Derived.Test.YtendlmdmbkcdnaaGreatDoorVz
import Derived.Shelf.Vars
set_option linter.unusedSimpArgs false
set_option linter.unusedVariables false
namespace Go.Proofs.YtendlmdmbkcdnaaGreatDoor.tp
open Go.RowKit Go.Maps Go.WideMaps oc rc gh dk sg ma hi kd dd
open Go.Lib (hid)
open ri (lnm)
set_option maxRecDepth 100000
def BoolsAt (w : World) (A : Option Addr) (l : List Bool) : Prop := 0 < l.length -> ∃ b off, A = some ⟨b, off, none⟩ /\ b < w.heap.size /\ ∀ (j : Nat) (x : Bool), l[j]? = some x -> w.cell? ⟨b, off + j, none⟩ = some (.bool x)
theorem RcsAt.pre {w : World} {A : Option Addr} {l m : List Rc} (h : RcsAt w A (l ++ m)) : RcsAt w A l := fun h0 => by
 obtain ⟨b, rfl, hlt, hc⟩ := h (by rw [List.length_append]; omega)
 exact ⟨b, rfl, hlt, fun j x i v hj hi => hc j x i v (by rw [List.getElem?_append_left (List.getElem?_eq_some_iff.1 hj).1]; exact hj) hi⟩
theorem whose_3 {z : Fil} (h : whose (lnm z) ≠ 4) : OfN 3 z.name := by
 by_cases h3 : OfN 3 z.name
 ·exact h3
 ·exfalso
  apply h
  unfold whose
  rw [sb_lnm, if_neg h3]
set_option maxHeartbeats 16000000 in
theorem apart_any (xs ys : List Dx) (ts : List Bool) (A1 A2 A3 : Option Addr) (p1 p2 p3 : Nat) (w : World) (hx : DosAt w A1 xs) (hy : DosAt w A2 ys) (hz : BoolsAt w A3 ts) (hxn : xs.length <= 9223372036854775807) (hyn : ys.length <= 9223372036854775807) (hzn : ts.length <= 9223372036854775807) (ht : Tab w) (hm : MaxLenAt w) :
  Calls Tryz.prog 6 #[.slice A1 xs.length p1, .slice A2 ys.length p2, .slice A3 ts.length p3] w fun e w' => e = .returned (.bool true) /\ Below w.heap.size w w' := by
 have HX := hid hx
 have HY := hid hy
 have HZ := hid hz
 have HT := hid ht
 have HM := hid hm
 obtain ⟨nx, hnx⟩ : ∃ n, xs.length = n := ⟨_, rfl⟩
 obtain ⟨ny, hny⟩ : ∃ n, ys.length = n := ⟨_, rfl⟩
 obtain ⟨nz, hnz⟩ : ∃ n, ts.length = n := ⟨_, rfl⟩
 have HNX := hid hnx
 have HNY := hid hny
 have HNZ := hid hnz
 rw [hnx] at hxn ⊢
 rw [hny] at hyn ⊢
 rw [hnz] at hzn ⊢
 have HNB := hid (And.intro hxn (And.intro hyn hzn))
 clear hx hy hz ht hm hnx hny hnz hxn hyn hzn
 go_enter Tryz.func6, Tryz.ntmps6
 go_wp2_with fail
 refine (fresh_law w HT.out).mono ?_
 rintro e w1 ⟨t, G, f, f2, rfl, hT, hG, hb⟩
 have HSL := hid (second_law w w1 G t w.heap.size f f2 hT hG hb HM.out)
 clear hT hG hb
 go_wp2_with fail
 refine HSL.out.mono ?_
 rintro e w2 ⟨o, G2, f3, f4, rfl, hA, hB, hG2, hb2⟩
 obtain ⟨G3, hlw⟩ := lw2_start w w2 G2 t o w.heap.size f f2 f3 f4 hA hB hG2 hb2
 have HLW := hid hlw
 clear HSL hA hB hG2 hb2 hlw
 go_wp2_with fail
 generalize hw3 : ((w2.alloc (.cells #[.slice none 0 0, .int .i64 0] 33)).alloc (.cells #[.slice none 0 0, .int .i64 0] 33)) = w3 at HLW ⊢
 clear hw3
 generalize w2.heap.size = ba at HLW ⊢
 go_loopw [14, 15, 16] (fun i k n wr => ∃ a b c : Nat, a <= nx /\ b <= ny /\ c <= nz /\ i = .int .i64 (a : Int) /\ k = .int .i64 (b : Int) /\ n = .int .i64 (c : Int) /\ Hid (∃ G X Y fs no L fa fb, LW2 w w.heap.size 1073741824 3 t 9 ba 3 4 o 10 (ba + 1) 4 wr G X Y fs no L fa fb)) (fun _ _ n _ => nz - (intOf n).toNat)
 case atStart => exact ⟨0, 0, 0, Nat.zero_le _, Nat.zero_le _, Nat.zero_le _, rfl, rfl, rfl, hid ⟨_, _, _, _, _, _, _, _, HLW.out⟩⟩
 case round =>
  obtain ⟨a, b, c, ha, hb, hc, rfl, rfl, rfl, HR⟩ := hrel
  clear HLW
  obtain ⟨G1, X, Y, fs, no, L, fa, fb, hlw⟩ := HR.out
  have HL := hid hlw
  clear hlw HR
  by_cases hlt : c < nz
  ·have g1 : decide ((c : Int) < (nz : Int)) = true := decide_eq_true (by omega)
   obtain ⟨y, hy⟩ : ∃ y, ts[c]? = some y := ⟨_, List.getElem?_eq_getElem (by rw [HNZ.out]; exact hlt)⟩
   obtain ⟨zb, zo, hZA, hzl, hzc⟩ := HZ.out (by rw [HNZ.out]; omega)
   rw [hZA]
   have z0 : wr.cell? ⟨zb, zo + c, none⟩ = some (.bool y) := (HL.out.below.cell (by exact hzl)).trans (hzc c y hy)
   have i1 : IntKind.i64.wrap ((c : Int) + 1) = (c : Int) + 1 := by have := HNB.out; rw [IntKind.wrap_i64]; omega
   have HZL := hid (And.intro hzl (hzc c y hy))
   clear hy hzl hzc hZA
   cases y
   ·by_cases h2 : b < ny
    ·obtain ⟨x, hx⟩ : ∃ x, ys[b]? = some x := ⟨_, List.getElem?_eq_getElem (by rw [HNY.out]; exact h2)⟩
     obtain ⟨db, off, hA, hdl, hdc⟩ := HY.out (by rw [HNY.out]; omega)
     rw [hA]
     obtain ⟨kd, nw, ⟨ky, vl, tb, pid, sq⟩⟩ := x
     have hc : ∀ (j : Nat) (v : Value), (Dx.cells ⟨kd, nw, ⟨ky, vl, tb, pid, sq⟩⟩)[j]? = some v -> wr.cell? ⟨db, off + b * 7 + j, none⟩ = some v := fun j v hj => (HL.out.below.cell (by exact hdl)).trans (hdc b _ j v hx hj)
     have e0 : wr.cell? ⟨db, off + b * 7, none⟩ = some (.int .i64 kd) := hc 0 _ rfl
     have e1 : wr.cell? ⟨db, off + b * 7 + 1, none⟩ = some (.int .i64 nw) := hc 1 _ rfl
     have e2 : wr.cell? ⟨db, off + b * 7 + 2, none⟩ = some (.string ky) := hc 2 _ rfl
     have e3 : wr.cell? ⟨db, off + b * 7 + 3, none⟩ = some (.string vl) := hc 3 _ rfl
     have e4 : wr.cell? ⟨db, off + b * 7 + 4, none⟩ = some (.bool tb) := hc 4 _ rfl
     have e5 : wr.cell? ⟨db, off + b * 7 + 5, none⟩ = some (.int .i64 pid) := hc 5 _ rfl
     have e6 : wr.cell? ⟨db, off + b * 7 + 6, none⟩ = some (.int .i64 sq) := hc 6 _ rfl
     have g2 : decide ((b : Int) < (ny : Int)) = true := decide_eq_true (by omega)
     have i2 : IntKind.i64.wrap ((b : Int) + 1) = (b : Int) + 1 := by have := HNB.out; rw [IntKind.wrap_i64]; omega
     clear hx hdl hdc hc hA
     go_wp2_with fail
     refine (do_lw2 w wr G1 w.heap.size 1073741824 4 o 10 (ba + 1) 4 3 t 9 ba 3 Y X fs no L fb fa HL.out.swap (by decide) (by decide) (by decide) (by decide) (by decide) (by decide) rfl ⟨kd, nw, ⟨ky, vl, tb, pid, sq⟩⟩).mono ?_
     rintro e w5 ⟨rfl, G5, X5, fs5, no5, L5, f5, h5⟩
     have HL5 := hid h5.swap
     clear h5 e0 e1 e2 e3 e4 e5 e6 z0
     have z0 : w5.cell? ⟨zb, zo + c, none⟩ = some (.bool _) := (HL5.out.below.cell (by exact HZL.out.1)).trans HZL.out.2
     go_wp2_with fail
     go_roundw
     case rel => exact ⟨a, b + 1, c + 1, ha, by omega, by omega, rfl, by go_num, by go_num, hid ⟨_, _, _, _, _, _, _, _, HL5.out⟩⟩
     case measure => simp [intOf]; omega
    ·have g2 : decide ((b : Int) < (ny : Int)) = false := decide_eq_false (by omega)
     go_wp2_with fail
     go_roundw
     case rel => exact ⟨a, b, c + 1, ha, hb, by omega, rfl, rfl, by go_num, hid ⟨_, _, _, _, _, _, _, _, HL.out⟩⟩
     case measure => simp [intOf]; omega
   ·by_cases h2 : a < nx
    ·obtain ⟨x, hx⟩ : ∃ x, xs[a]? = some x := ⟨_, List.getElem?_eq_getElem (by rw [HNX.out]; exact h2)⟩
     obtain ⟨db, off, hA, hdl, hdc⟩ := HX.out (by rw [HNX.out]; omega)
     rw [hA]
     obtain ⟨kd, nw, ⟨ky, vl, tb, pid, sq⟩⟩ := x
     have hc : ∀ (j : Nat) (v : Value), (Dx.cells ⟨kd, nw, ⟨ky, vl, tb, pid, sq⟩⟩)[j]? = some v -> wr.cell? ⟨db, off + a * 7 + j, none⟩ = some v := fun j v hj => (HL.out.below.cell (by exact hdl)).trans (hdc a _ j v hx hj)
     have e0 : wr.cell? ⟨db, off + a * 7, none⟩ = some (.int .i64 kd) := hc 0 _ rfl
     have e1 : wr.cell? ⟨db, off + a * 7 + 1, none⟩ = some (.int .i64 nw) := hc 1 _ rfl
     have e2 : wr.cell? ⟨db, off + a * 7 + 2, none⟩ = some (.string ky) := hc 2 _ rfl
     have e3 : wr.cell? ⟨db, off + a * 7 + 3, none⟩ = some (.string vl) := hc 3 _ rfl
     have e4 : wr.cell? ⟨db, off + a * 7 + 4, none⟩ = some (.bool tb) := hc 4 _ rfl
     have e5 : wr.cell? ⟨db, off + a * 7 + 5, none⟩ = some (.int .i64 pid) := hc 5 _ rfl
     have e6 : wr.cell? ⟨db, off + a * 7 + 6, none⟩ = some (.int .i64 sq) := hc 6 _ rfl
     have g2 : decide ((a : Int) < (nx : Int)) = true := decide_eq_true (by omega)
     have i2 : IntKind.i64.wrap ((a : Int) + 1) = (a : Int) + 1 := by have := HNB.out; rw [IntKind.wrap_i64]; omega
     clear hx hdl hdc hc hA
     go_wp2_with fail
     refine (do_lw2 w wr G1 w.heap.size 1073741824 3 t 9 ba 3 4 o 10 (ba + 1) 4 X Y fs no L fa fb HL.out (by decide) (by decide) (by decide) (by decide) (by decide) (by decide) rfl ⟨kd, nw, ⟨ky, vl, tb, pid, sq⟩⟩).mono ?_
     rintro e w5 ⟨rfl, G5, X5, fs5, no5, L5, f5, h5⟩
     have HL5 := hid h5
     clear h5 e0 e1 e2 e3 e4 e5 e6 z0
     have z0 : w5.cell? ⟨zb, zo + c, none⟩ = some (.bool _) := (HL5.out.below.cell (by exact HZL.out.1)).trans HZL.out.2
     go_wp2_with fail
     go_roundw
     case rel => exact ⟨a + 1, b, c + 1, by omega, hb, by omega, by go_num, rfl, by go_num, hid ⟨_, _, _, _, _, _, _, _, HL5.out⟩⟩
     case measure => simp [intOf]; omega
    ·have g2 : decide ((a : Int) < (nx : Int)) = false := decide_eq_false (by omega)
     go_wp2_with fail
     go_roundw
     case rel => exact ⟨a, b, c + 1, ha, hb, by omega, rfl, rfl, by go_num, hid ⟨_, _, _, _, _, _, _, _, HL.out⟩⟩
     case measure => simp [intOf]; omega
  ·obtain rfl : c = nz := by omega
   go_wp2_with fail
   refine (records_any wr G1 3 t w.heap.size X _ fs no L HL.out.topA HL.out.invA.rowsOk).mono ?_
   rintro e w5 ⟨A5, c5, rfl, ho5, hb5⟩
   have HO5 := hid ho5
   have HG5 : Hid (∀ g, Value.ownBlock (.slice A5 X.all.length c5) = some g -> Is G1 g none) := hid (fun g hg => by obtain ⟨p, hp⟩ := HL.out.topA; exact hp.fin g (ho5.lt g hg).1)
   have HL5 := hid (HL.out.keep hb5)
   have HR5 : Hid (RcsAt w5 A5 X.all) := hid (RcsAt.of_own ho5)
   clear ho5 hb5
   go_wp2_with fail
   refine (records_any w5 G1 4 o w.heap.size Y _ fs no L HL5.out.topB HL5.out.invB.rowsOk).mono ?_
   rintro e w6 ⟨A6, c6, rfl, ho6, hb6⟩
   have HL6 := hid (HL5.out.keep hb6)
   have HR6 : Hid (RcsAt w6 A5 X.all) := hid (HR5.out.below hb6)
   have HS6 : Hid (RcsAt w6 A6 Y.all) := hid (RcsAt.of_own ho6)
   clear ho6 hb6
   obtain ⟨AA, cA, hka, hra⟩ := HL6.out.bookA
   obtain ⟨AB, cB, hkb, hrb⟩ := HL6.out.bookB
   have HKA := hid hka.1
   have HKB := hid hkb.1
   have HRA := hid hra.1
   have HRB := hid hrb.1
   clear hka hra hkb hrb
   go_wp2_with fail
   refine wp_region_head 33 (PhLd w6) (by kernel_rfl) (by kernel_rfl) (fun w7 hh7 hb7 => ?_)
   have HB7 : Hid (Below w6.heap.size w6 w7) := hid hb7
   have hne0 : Nonempty (Held (PhLd w6)) := ⟨⟨_, HB7.out⟩⟩
   obtain ⟨na, hna⟩ : ∃ n, (X.all ++ X.wr).length = n := ⟨_, rfl⟩
   have HNA := hid hna
   have ka0 : ∀ p : Held (PhLd w6), p.w.cell? ⟨ba, 0, none⟩ = some (.slice AA na cA) := fun p => (Below.cell p.h HKA.out.lt).trans ((HKA.out.cell 0).trans (by rw [hna]; rfl))
   have ka1 : ∀ p : Held (PhLd w6), p.w.cell? ⟨ba, 1, none⟩ = some (.int .i64 (fa : Int)) := fun p => (Below.cell p.h HKA.out.lt).trans ((HKA.out.cell 1).trans rfl)
   clear hh7 hb7 hna
   refine headI_batch 0 16 (by kernel_rfl) (by kernel_rfl) HB7.out ?_
   simp only [List.take, List.drop]
   repeat (first | go_big_quiet_skip | (go_big_quiet_want; go_big_quiet_op; go_big_quiet_on))
   refine wpQuiet_nil ?_
   have hfa : fa <= cA := by
    have h1 := HL6.out.firmA
    have h2 := HL6.out.invA.all
    rcases HRA.out.2 with ⟨h3, h4⟩ | ⟨g, cap, cur, h3, _, _, h5, _⟩
    ·rw [List.length_append] at h4; omega
    ·injection h3 with _ _ h3; rw [List.length_append] at h5; omega
   have gfa : decide ((fa : Int) <= (cA : Int)) = true := decide_eq_true (by omega)
   refine headI_loud 16 (by kernel_rfl) (by kernel_rfl) HB7.out ?_
   simp only [List.take, List.drop]
   go_wp2_with fail
   refine ⟨rfl, ?_⟩
   have HAS : Hid (Calls Tryz.prog 18 #[.slice A5 X.all.length c5, .slice AA fa cA] w7 fun e w' => e = .returned (.bool true) /\ Below w7.heap.size w7 w') := by
    have h1 := HL6.out.firmA
    have h2 := HL6.out.invA.all
    have h3 := HL6.out.invA.en2
    have e : fa = X.all.length := by omega
    rw [e]
    exact hid (alike_same w7 A5 AA c5 cA X.all (HR6.out.below HB7.out) ((RcsAt.of_own HRA.out).pre.below HB7.out) (by omega))
   clear ka0 ka1 gfa hfa
   refine headI_loud 17 (by kernel_rfl) (by kernel_rfl) HB7.out ?_
   simp only [List.take, List.drop]
   go_wp2_with fail
   refine HAS.out.mono ?_
   rintro e w8 ⟨rfl, hb8⟩
   have HB8 : Hid (Below w6.heap.size w6 w8) := hid (HB7.out.trans (hb8.mono HB7.out.size))
   clear hb8
   go_wp2_with fail
   refine ⟨rfl, ?_⟩
   obtain ⟨nb, hnb⟩ : ∃ n, (Y.all ++ Y.wr).length = n := ⟨_, rfl⟩
   have HNB2 := hid hnb
   have kb0 : ∀ p : Held (PhLd w6), p.w.cell? ⟨ba + 1, 0, none⟩ = some (.slice AB nb cB) := fun p => (Below.cell p.h HKB.out.lt).trans ((HKB.out.cell 0).trans (by rw [hnb]; rfl))
   have kb1 : ∀ p : Held (PhLd w6), p.w.cell? ⟨ba + 1, 1, none⟩ = some (.int .i64 (fb : Int)) := fun p => (Below.cell p.h HKB.out.lt).trans ((HKB.out.cell 1).trans rfl)
   clear hnb
   refine headI_batch 18 12 (by kernel_rfl) (by kernel_rfl) HB8.out ?_
   simp only [List.take, List.drop]
   repeat (first | go_big_quiet_skip | (go_big_quiet_want; go_big_quiet_op; go_big_quiet_on))
   refine wpQuiet_nil ?_
   have hfb : fb <= cB := by
    have h1 := HL6.out.firmB
    have h2 := HL6.out.invB.all
    rcases HRB.out.2 with ⟨h3, h4⟩ | ⟨g, cap, cur, h3, _, _, h5, _⟩
    ·rw [List.length_append] at h4; omega
    ·injection h3 with _ _ h3; rw [List.length_append] at h5; omega
   have gfb : decide ((fb : Int) <= (cB : Int)) = true := decide_eq_true (by omega)
   refine headI_loud 30 (by kernel_rfl) (by kernel_rfl) HB8.out ?_
   simp only [List.take, List.drop]
   go_wp2_with fail
   refine ⟨rfl, ?_⟩
   have HAS2 : Hid (Calls Tryz.prog 18 #[.slice A6 Y.all.length c6, .slice AB fb cB] w8 fun e w' => e = .returned (.bool true) /\ Below w8.heap.size w8 w') := by
    have h1 := HL6.out.firmB
    have h2 := HL6.out.invB.all
    have h3 := HL6.out.invB.en2
    have e : fb = Y.all.length := by omega
    rw [e]
    exact hid (alike_same w8 A6 AB c6 cB Y.all (HS6.out.below HB8.out) ((RcsAt.of_own HRB.out).pre.below HB8.out) (by omega))
   clear kb0 kb1 gfb hfb
   refine headI_loud 31 (by kernel_rfl) (by kernel_rfl) HB8.out ?_
   simp only [List.take, List.drop]
   go_wp2_with fail
   refine HAS2.out.mono ?_
   rintro e w9 ⟨rfl, hb9⟩
   have HB9 : Hid (Below w6.heap.size w6 w9) := hid (HB8.out.trans (hb9.mono HB8.out.size))
   clear hb9
   go_wp2_with fail
   refine ⟨rfl, ?_⟩
   refine headI_batch 32 1 (by kernel_rfl) (by kernel_rfl) HB9.out ?_
   simp only [List.take, List.drop]
   repeat (first | go_big_quiet_skip | (go_big_quiet_want; go_big_quiet_op; go_big_quiet_on))
   refine wpQuiet_nil ?_
   refine headI_end (by kernel_rfl) HB9.out ?_
   simp only [List.take, List.drop]
   have HL9 := hid (HL6.out.keep HB9.out)
   clear HAS HAS2
   go_wp2_with fail
   have HNMS := hid HL9.out.names
   have HMG : Hid (MaxG w9 G1) := by
    obtain ⟨m, hm⟩ := HM.out
    exact hid ⟨MaxLenAt.below ⟨m, hm⟩ HL9.out.below, HL9.out.old _ (block_lt_of_cell hm)⟩
   refine (drop_any w9 G1 4 o w.heap.size Y _ fs no L HL9.out.topB HMG.out (by have := HL9.out.room.len; omega) whose HNMS.out (by have := HL9.out.no; have := HL9.out.invA.en2; have := HL9.out.invA.cur1; have := HL9.out.invB.en2; have := HL9.out.invB.cur1; unfold cost at *; omega) (by have := HL9.out.L; have := HL9.out.invA.cur1; have := HL9.out.invB.cur1; omega)).mono ?_
   rintro e w10 ⟨rfl, G10, no10, L10, -, -, hk10, hf10, hx10, c21⟩
   rw [HL9.out.ib] at hk10
   have hb10 := below_of HL9.out.below HL9.out.old hx10 ct_none
   have HK10 := hid hk10
   have HF10 := hid hf10
   have HB10 := hid hb10.1
   have HO10 := hid hb10.2
   have HT10 : Hid (TopAt w10 G10 3 t w.heap.size X 1073741824 (fs.filter fun f => decide (whose (lnm f) ≠ ((4 : Nat) : Int))) no10 L10) := hid (HL9.out.topA.other hx10 hf10 hk10 (fun pp => ct_ne (by decide)) ct_none)
   have HR10 : Hid (RcsAt w10 A5 X.all) := hid (by
    have h9 := HR6.out.below HB9.out
    intro h0
    obtain ⟨b, rfl, hlt, hc⟩ := h9 h0
    exact ⟨b, rfl, Nat.lt_of_lt_of_le hlt hx10.size, fun j x i v hj hi => (World.cell?_of_block (hx10.keep b hlt (by rw [(HG5.out b rfl).1, (HG5.out b rfl).2]; exact ct_none))).trans (hc j x i v hj hi)⟩)
   clear hk10 hf10 hx10 hb10
   go_wp2_with fail
   refine (commit_gone w10 o c21).mono ?_
   rintro e w11 ⟨rfl, rfl⟩
   clear c21
   obtain ⟨fl, hfl⟩ : ∃ l, (fs.filter fun f => decide (whose (lnm f) ≠ ((4 : Nat) : Int))) = l := ⟨_, rfl⟩
   have HFL : Hid (fl.length <= 60000 /\ ∀ f ∈ fl, PName (lnm f) (whose (lnm f)) /\ whose (lnm f) ≠ 4) := hid ⟨by have h1 := HL9.out.room.len; have h2 := List.length_filter_le (fun f => decide (whose (lnm f) ≠ ((4 : Nat) : Int))) fs; rw [hfl] at h2; omega, fun f hf => by
    rw [<- hfl] at hf
    have h1 := List.mem_filter.1 hf
    exact ⟨HNMS.out f h1.1, by simpa using h1.2⟩⟩
   rw [hfl] at HK10 HT10
   clear hfl
   go_wp2_with fail
   refine (Go.Proofs.YtendlmdmbkcdnaaGreatDoor.ri.dk_list w11 G10 w.heap.size _ fl no10 L10 HK10.out (by have := HFL.out.1; omega)).mono ?_
   rintro e w12 ⟨v, ss, rfl, -, hp, ho, hb⟩
   obtain ⟨ks, hks⟩ : ∃ ks, ss.mergeSort (fun x y => decide (x <= y)) = ks := ⟨_, rfl⟩
   have hkl : ks.length = ss.length := by rw [<- hks]; exact List.length_mergeSort ss
   have hpp : ks.Perm (fl.map lnm) := by rw [<- hks]; exact (List.mergeSort_perm ss _).trans hp
   have HKL : Hid (ks.length <= 60000) := hid (by have h1 := hpp.length_eq; have h2 := HFL.out.1; rw [List.length_map] at h1; omega)
   have HKN : Hid (∀ s ∈ ks, PName s (whose s) /\ whose s ≠ 4) := hid (fun s hs => by
    obtain ⟨f, hf, rfl⟩ := List.mem_map.1 (hpp.mem_iff.1 hs)
    exact HFL.out.2 f hf)
   rw [hks, <- hkl] at ho
   obtain ⟨VA, vc, rfl⟩ := own_slice ho
   have HO12 := hid ho
   have HB12 := hid hb
   clear hp hks hkl hpp ho hb
   go_wp2_with fail
   have HTB : Hid (∀ W, Below w11.heap.size w11 W -> Tab W /\ MaxLenAt W) := hid (fun W hW => ⟨tab_below (tab_below HT.out HB10.out) (hW), (HM.out.below HB10.out).below hW⟩)
   go_loopw [28] (fun i wr => ∃ j : Nat, j <= ks.length /\ i = .int .i64 (j : Int) /\ Hid (Below w12.heap.size w12 wr)) (fun i _ => ks.length - (intOf i).toNat)
   case atStart => exact ⟨0, Nat.zero_le _, rfl, hid (Below.refl _ _)⟩
   case round =>
    obtain ⟨j, hj, rfl, HBk⟩ := hrel
    have HBj : Hid (Below w11.heap.size w11 wr) := hid (HB12.out.trans (HBk.out.mono HB12.out.size))
    have HVk := hid (own_below HO12.out HBk.out)
    by_cases hlt : j < ks.length
    ·have g1 : decide ((j : Int) < (ks.length : Int)) = true := decide_eq_true (by omega)
     obtain ⟨s, hs⟩ : ∃ x, ks[j]? = some x := ⟨_, List.getElem?_eq_getElem hlt⟩
     obtain ⟨g, cap, hv, hgl, e0⟩ := own_cell HVk.out (j := j) (u := Go.Proofs.encStr s) (by simp [hs])
     simp only [Value.slice.injEq, true_and] at hv
     obtain ⟨rfl, rfl⟩ := hv
     obtain ⟨⟨kk, sg, hk1, hk3, hcall⟩, hne4⟩ := HKN.out s (List.mem_of_getElem? hs)
     have i3 : IntKind.i64.wrap ((j : Int) + 1) = (j : Int) + 1 := by have := HKL.out; rw [IntKind.wrap_i64]; omega
     have HPC := hid (hcall wr (HTB.out wr HBj.out).1 (HTB.out wr HBj.out).2)
     clear hcall
     go_wp2_with fail
     refine HPC.out.mono ?_
     rintro e wp ⟨rfl, hbp⟩
     have HBp : Hid (Below w12.heap.size w12 wp) := hid (HBk.out.trans (hbp.mono HBk.out.size))
     clear e0 hbp HPC
     have k0 : decide (kk = 0) = false := decide_eq_false (by omega)
     have k0' : (kk != 0) = true := by simp; omega
     have t0 : decide (whose s = 4) = false := decide_eq_false hne4
     have t1 : (whose s == 4) = false := by simpa using hne4
     go_wp2_with fail
     go_roundw
     case rel => exact ⟨j + 1, by omega, by go_num, hid (HBp.out.alloc HBp.out.size _)⟩
     case measure => simp [intOf]; omega
    ·have g1 : decide ((j : Int) < (ks.length : Int)) = false := decide_eq_false (by omega)
     have HTR : Hid (TopAt wr G10 3 t w.heap.size X 1073741824 fl no10 L10) := by
      obtain ⟨p, hp⟩ := HT10.out
      exact hid ⟨p, hp.below HBj.out⟩
     go_wp2_with fail
     refine (records_any wr G10 3 t w.heap.size X _ fl no10 L10 HTR.out HL9.out.invA.rowsOk).mono ?_
     rintro e w13 ⟨A13, c13, rfl, ho13, hb13⟩
     have HB13 : Hid (Below w11.heap.size w11 w13) := hid (HBj.out.trans (hb13.mono HBj.out.size))
     have HR13 : Hid (RcsAt w13 A13 X.all) := hid (RcsAt.of_own ho13)
     have HOG : Hid (Calls Tryz.prog 33 #[.pointer (some ⟨w.heap.size, 0, none⟩), .int .i64 4, .int .i64 256, .int .i64 0, .int .i64 0] w13 fun e w' => e = .returned (.tuple #[.pointer none, .int .i64 100]) /\ Below w13.heap.size w13 w') := by
      obtain ⟨p, hp⟩ := HT10.out
      have hp13 := hp.below HB13.out
      exact hid (open_gone w13 G10 5 w.heap.size 4 256 0 0 1073741824 fl no10 L10 hp13.dk hp13.fin hp13.tg (by decide) (by decide) (by decide) (by decide) (fun z hz e => ofN_ne (i := 3) (j := 4) (by decide) (by decide) (by decide) (whose_3 (HFL.out.2 z hz).2) (e ▸ ofN_man 4)))
     clear ho13 hb13
     go_wp2_with fail
     refine HOG.out.mono ?_
     rintro e w14 ⟨rfl, hb14⟩
     have HB14 : Hid (Below w11.heap.size w11 w14) := hid (HB13.out.trans (hb14.mono HB13.out.size))
     have HAS3 : Hid (Calls Tryz.prog 18 #[.slice A13 X.all.length c13, .slice A5 X.all.length c5] w14 fun e w' => e = .returned (.bool true) /\ Below w14.heap.size w14 w') := hid (alike_same w14 A13 A5 c13 c5 X.all (HR13.out.below hb14) (HR10.out.below HB14.out) (by have h1 := HL9.out.invA.all; have h2 := HL9.out.invA.en2; omega))
     clear hb14 HOG
     go_wp2_with fail
     refine HAS3.out.mono ?_
     rintro e w15 ⟨rfl, hb15⟩
     have HB15 : Hid (Below w.heap.size w w15) := hid ((HB10.out.trans (HB14.out.mono HB10.out.size)).trans (hb15.mono (Nat.le_trans HB10.out.size HB14.out.size)))
     clear hb15 HAS3
     go_wp2_with fail
     go_ret
     exact ⟨rfl, HB15.out⟩
end Go.Proofs.YtendlmdmbkcdnaaGreatDoor.tp
namespace Go.Proofs.YtendlmdmbkcdnaaGreatDoor.tp
open Go.RowKit Go.Maps Go.WideMaps Go.ChangeShapes Go.WideShapes Go.Deep oc rc gh
set_option maxRecDepth 100000
theorem maxlen_of {W : World} (h : W.ShapedOpen Tryz.prog) : MaxLenAt W :=
 cell_of_shapedOpen_int (g := 3) (t := 3) (zero := #[.int .i64 0]) h (of_decide_eq_true (by kernel_rfl)) (by kernel_rfl) rfl (by kernel_rfl) (by kernel_rfl) (by kernel_rfl)
section
variable {H : Type} {enc : TypeId × Value -> H} {W : World}
theorem open_bools {fuel : Nat} {a0 : Option Addr} {len cap : Nat} {x : DataW H × List MemPlace} (h : DataW.trod enc Tryz.prog W 0 (fun _ => true) true fuel 88 (Value.slice a0 len cap).cells.toList = some x) :
  ∃ l : List Bool, len = l.length /\ BoolsAt W a0 l /\ l.length <= 9223372036854775807 := by
 rcases open_slice Tryz.underlying88 h with ⟨hcs, _⟩ | ⟨a, len', cap', m, n, D, Pl, hcs, _, hl, hm, hmm, hx, hi⟩
 ·simp [Value.cells] at hcs
  obtain ⟨rfl, rfl, rfl⟩ := hcs
  exact ⟨[], rfl, fun hn => absurd hn (Nat.lt_irrefl _), by decide⟩
 ·simp [Value.cells] at hcs
  obtain ⟨rfl, rfl, rfl⟩ := hcs
  simp only [if_true] at hmm
  subst hmm
  have hrow : ∀ i, i < m -> ∃ y : Bool, W.cell? (a.add i) = some (.bool y) := by
   intro i him
   obtain ⟨cs', hc, ht⟩ := hi i him
   rw [cells_bool] at hc
   obtain ⟨_, hcl, hat⟩ := World.cells?_some hc
   match cs', hcl with
   | [c0], _ =>
    obtain ⟨y, hy, _⟩ := DataW.trod_bool Tryz.underlying4 ht
    have h1 := hat 0 (by decide)
    try rw [cells_bool] at h1
    rw [Go.Deep.add_add] at h1
    refine ⟨y, ?_⟩
    simpa [hy] using h1
  have hmx : m <= 9223372036854775807 := by unfold maxLen at hm; omega
  refine ⟨(List.range len).map fun i => if h : i < m then Classical.choose (hrow i h) else false, by simp, fun hn => ?_, by simp; omega⟩
  have hpos : 0 < len := by simpa using hn
  have hget : ∀ (i : Nat) (y : Bool), ((List.range len).map fun i => if h : i < m then Classical.choose (hrow i h) else false)[i]? = some y -> W.cell? (a.add i) = some (.bool y) := by
   intro i y hy
   rw [List.getElem?_map] at hy
   obtain ⟨k, hk, rfl⟩ := Option.map_eq_some_iff.1 hy
   obtain ⟨hlt, rfl⟩ := List.getElem?_eq_some_iff.1 hk
   rw [List.length_range] at hlt
   simp only [List.getElem_range]
   rw [dif_pos (show i < m by omega)]
   exact Classical.choose_spec (hrow i (by omega))
  obtain ⟨y0, hy0⟩ := hrow 0 (by omega)
  have hblk := block_lt_of_cell hy0
  obtain ⟨b, off, sp⟩ := a
  cases sp with
  | some x =>
   exfalso
   simp [World.cell?, Addr.add] at hy0
   split at hy0 <;> simp_all
  | none =>
   refine ⟨b, off, rfl, ?_, fun i r hr => ?_⟩
   ·rw [add_flat] at hblk
    exact hblk
   ·have := hget i r hr
    rw [add_flat] at this
    exact this
end
end Go.Proofs.YtendlmdmbkcdnaaGreatDoor.tp
