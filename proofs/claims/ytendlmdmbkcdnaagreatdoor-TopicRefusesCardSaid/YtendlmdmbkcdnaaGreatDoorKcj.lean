/-
  Texts of the proof joined by a program: Tpn Tpo.
-/
import Derived.Test.YtendlmdmbkcdnaaGreatDoorKbj
import Derived.Deep.Slices
import Derived.Deep.Fields
import Derived.ChangeSame
import Derived.WalkKit
import Derived.ProofKit
import Derived.OpenShut
import Derived.Lib.LaidTab
import Derived.LaidSub
set_option linter.unusedSimpArgs false
set_option linter.unusedVariables false
namespace Go.Proofs.YtendlmdmbkcdnaaGreatDoor.tp
open Go.RowKit Go.Maps Go.WideMaps oc rc gh dk sg ma hi kd dd
set_option maxRecDepth 100000
abbrev PhR (b y s : Nat) (cs ys ss : Array Value) : World → Prop := fun W => Blk W b 33 cs ∧ Blk W y 37 ys ∧ Blk W s 41 ss
set_option maxHeartbeats 16000000 in
theorem refuses_any (dos : List Dx) (A : Option Addr) (cp : Nat) (quota : Int) (w : World) (hd : DosAt w A dos) (hn : dos.length ≤ 9223372036854775807) (ht : Tab w) :
   Calls Tryz.prog 3 #[.slice A dos.length cp, .int .i64 quota] w fun e w' => e = .returned (.bool true) ∧ Below w.heap.size w w' := by
 have HD := Lib.hid hd
 have HT := Lib.hid ht
 obtain ⟨n, hnn⟩ : ∃ n, dos.length = n := ⟨_, rfl⟩
 have HN := Lib.hid hnn
 rw [hnn] at hn ⊢
 have HNB := Lib.hid hn
 clear hd ht hn hnn
 obtain ⟨q, hq⟩ : ∃ q, max (0 : Int) (min quota 1048576) = q := ⟨_, rfl⟩
 have HQB : Hid (0 ≤ q ∧ q ≤ 1048576) := Lib.hid (by omega)
 go_enter Tryz.func3, Tryz.ntmps3
 go_wp2_with fail
 refine (newdisk_any q HQB.out.1 (by have := HQB.out.2; omega) w).mono ?_
 rintro e w1 ⟨rfl, hD, hb1⟩
 have HDK := Lib.hid hD
 have HB1 := Lib.hid hb1
 clear hD hb1 hq
 go_wp2_with fail
 refine (start_new w w1 q HQB.out.1 (by have := HQB.out.2; omega) w.heap.size (Nat.le_refl _) HDK.out HB1.out HT.out).mono ?_
 rintro e w2 (⟨t, G, X, fs, no, L, rfl, hT, hI, hi, ha, hw, hno, hL, hl, hs, ho, hb⟩ | ⟨rfl, hq, hb⟩)
 · have hbk : LW w w.heap.size t w2.heap.size q (w2.alloc (.cells #[.slice none 0 0, .int .i64 0] 33)) (G.put w2.heap.size (some (9, .top))) X fs no L 0 := by
     obtain ⟨p, hp⟩ := hT
     have hb2 : Below w2.heap.size w2 (w2.alloc (.cells #[.slice none 0 0, .int .i64 0] 33)) := (Below.refl _ _).alloc (Nat.le_refl _) _
     have hfx : Fx CN G (G.put w2.heap.size (some (9, .top))) w2 (w2.alloc (.cells #[.slice none 0 0, .int .i64 0] 33)) := Fx.put (Nat.le_refl _) _ (Fx.below hb2)
     have hfn : Fin (G.put w2.heap.size (some (9, .top))) (w2.alloc (.cells #[.slice none 0 0, .int .i64 0] 33)) := (hp.fin.more hb2.size).put (by rw [World.size_alloc]; omega) _
     refine ⟨⟨p, hp.keep hfx hfn (fun i hi => (hp.fin i hi).1) (fun _ _ h => h.elim) (fun _ h => h) (fun h => h)⟩, ?_, hI, Nat.zero_le _, hno, hL, hl, hs, fun i hi => Gh.put_other (ho i hi) (by have := hb.size; omega), hb.trans (hb2.mono hb.size)⟩
     rw [ha, hw]
     exact ⟨none, 0, ⟨Blk.new w2 _ _, Gh.put_same _ _ _ (hp.fin _ (Nat.le_refl _)).1⟩, World.ownsRow_nil _ _ _ _, fun b hb => by cases hb⟩
   have HLW := Lib.hid hbk
   clear hT hI hi ha hw hno hL hl hs ho hb hbk
   go_wp2_with fail
   generalize (w2.alloc (.cells #[.slice none 0 0, .int .i64 0] 33)) = w3 at HLW ⊢
   generalize w2.heap.size = bb at HLW ⊢
   go_loopw [9] (fun i wr => ∃ k : Nat, k ≤ n ∧ i = .int .i64 (k : Int) ∧ Hid (∃ G X fs no L firm, LW w w.heap.size t bb q wr G X fs no L firm)) (fun i _ => n - (intOf i).toNat)
   case atStart => exact ⟨0, Nat.zero_le _, rfl, Lib.hid ⟨_, _, _, _, _, _, HLW.out⟩⟩
   case round =>
     obtain ⟨k, hk, rfl, HR⟩ := hrel
     clear HLW
     obtain ⟨G1, X1, fs1, no1, L1, firm1, hlw⟩ := HR.out
     have HL := Lib.hid hlw
     clear hlw HR
     by_cases hlt : k < n
     · have g1 : decide ((k : Int) < (n : Int)) = true := decide_eq_true (by omega)
       obtain ⟨x, hx⟩ : ∃ x, dos[k]? = some x := ⟨_, List.getElem?_eq_getElem (by rw [HN.out]; exact hlt)⟩
       obtain ⟨db, off, hA, hdl, hdc⟩ := HD.out (by rw [HN.out]; omega)
       rw [hA]
       obtain ⟨kd, nw, ⟨ky, vl, tb, pid, sq⟩⟩ := x
       have hc : ∀ (j : Nat) (v : Value), (Dx.cells ⟨kd, nw, ⟨ky, vl, tb, pid, sq⟩⟩)[j]? = some v → wr.cell? ⟨db, off + k * 7 + j, none⟩ = some v := fun j v hj => (HL.out.below.cell (by exact hdl)).trans (hdc k _ j v hx hj)
       have e0 : wr.cell? ⟨db, off + k * 7, none⟩ = some (.int .i64 kd) := hc 0 _ rfl
       have e1 : wr.cell? ⟨db, off + k * 7 + 1, none⟩ = some (.int .i64 nw) := hc 1 _ rfl
       have e2 : wr.cell? ⟨db, off + k * 7 + 2, none⟩ = some (.string ky) := hc 2 _ rfl
       have e3 : wr.cell? ⟨db, off + k * 7 + 3, none⟩ = some (.string vl) := hc 3 _ rfl
       have e4 : wr.cell? ⟨db, off + k * 7 + 4, none⟩ = some (.bool tb) := hc 4 _ rfl
       have e5 : wr.cell? ⟨db, off + k * 7 + 5, none⟩ = some (.int .i64 pid) := hc 5 _ rfl
       have e6 : wr.cell? ⟨db, off + k * 7 + 6, none⟩ = some (.int .i64 sq) := hc 6 _ rfl
       have i59 : IntKind.i64.wrap ((k : Int) + 1) = (k : Int) + 1 := by have := HNB.out; rw [IntKind.wrap_i64]; omega
       have HI59 := Lib.hid i59
       have HLT := Lib.hid hlt
       clear hx hdl hdc hc hA i59
       by_cases hk1 : kd = 1
       · subst hk1
         go_wp2_with fail
         obtain ⟨wa, hwa⟩ : ∃ y, wr.alloc (.cells #[.int .i64 1, .int .i64 nw, .string ky, .string vl, .bool tb, .int .i64 pid, .int .i64 sq] 37) = y := ⟨_, rfl⟩
         have HLa : Hid (LW w w.heap.size t bb q wa G1 X1 fs1 no1 L1 firm1) := by rw [← hwa]; exact Lib.hid (HL.out.keep ((Below.refl _ _).alloc (Nat.le_refl _) _))
         have HXa : Hid (Blk wa wr.heap.size 37 #[.int .i64 1, .int .i64 nw, .string ky, .string vl, .bool tb, .int .i64 pid, .int .i64 sq]) := by rw [← hwa]; exact Lib.hid (Blk.new wr _ _)
         have HF1 : Hid (Fin G1 wr) := by obtain ⟨p, h⟩ := HL.out.top; exact Lib.hid h.fin
         have HZx : Hid (Is G1 wr.heap.size none ∧ wr.heap.size < wa.heap.size) := Lib.hid ⟨HF1.out _ (Nat.le_refl _), HXa.out.lt⟩
         rw [hwa]
         clear hwa e0 e1 e2 e3 e4 e5 e6
         refine (state_any wa G1 3 t w.heap.size X1 q fs1 no1 L1 HLa.out.top HLa.out.inv.sth).mono ?_
         rintro e wb ⟨⟨sa, sb, sc, rfl⟩, hbb⟩
         have HBb := Lib.hid hbb
         clear hbb
         unfold stV
         obtain ⟨n1, hn1⟩ : ∃ z, X1.en + X1.wr.length = z := ⟨_, rfl⟩
         have HN1 := Lib.hid hn1
         obtain ⟨sg, hsg⟩ : ∃ z, X1.man.segs.length = z := ⟨_, rfl⟩
         have HSG := Lib.hid hsg
         rw [hn1, hsg]
         clear hn1 hsg
         have HN1B : Hid (n1 ≤ 300800) := Lib.hid (by have h1 := HL.out.inv.en2; have h2 := HN1.out; omega)
         go_wp2_with fail
         obtain ⟨wc, hwc⟩ : ∃ y, wb.alloc (.cells #[.int .i64 (X1.i : Int), .int .i64 (n1 : Int), .int .i64 (X1.en : Int), .int .i64 (X1.man.mark : Int), .int .i64 (X1.clock : Int), .int .i64 (sg : Int), .int .i64 (X1.wr.length : Int), .int .i64 sa, .int .i64 sb, .int .i64 sc] 41) = y := ⟨_, rfl⟩
         have HBc : Hid (Below wa.heap.size wa wc) := by rw [← hwc]; exact Lib.hid (HBb.out.alloc HBb.out.size _)
         have HSc : Hid (Blk wc wb.heap.size 41 #[.int .i64 (X1.i : Int), .int .i64 (n1 : Int), .int .i64 (X1.en : Int), .int .i64 (X1.man.mark : Int), .int .i64 (X1.clock : Int), .int .i64 (sg : Int), .int .i64 (X1.wr.length : Int), .int .i64 sa, .int .i64 sb, .int .i64 sc]) := by rw [← hwc]; exact Lib.hid (Blk.new wb _ _)
         have HZs : Hid (Is G1 wb.heap.size none) := Lib.hid (HF1.out _ (by have h1 := HZx.out.2; have h2 := HBb.out.size; omega))
         have HLc : Hid (LW w w.heap.size t bb q wc G1 X1 fs1 no1 L1 firm1) := Lib.hid (HLa.out.keep HBc.out)
         have HXc := Lib.hid (HXa.out.below HBc.out HXa.out.lt)
         rw [hwc]
         clear hwc HLa
         have HDKc : Hid (DK wc G1 w.heap.size q fs1 no1 L1) := by obtain ⟨p, h⟩ := HLc.out.top; exact Lib.hid h.dk
         refine (dk_quota wc G1 w.heap.size q fs1 no1 L1 HDKc.out).mono ?_
         rintro e wc2 ⟨rfl, rfl⟩
         go_wp2_with fail
         refine (dk_used wc2 G1 w.heap.size q fs1 no1 L1 HDKc.out).mono ?_
         rintro e wc ⟨rfl, rfl⟩
         obtain ⟨fr, hfr⟩ : ∃ z : Int, q - ((sumF fs1 : Nat) : Int) = z := ⟨_, rfl⟩
         have HFR := Lib.hid hfr
         have HFB : Hid (0 ≤ fr ∧ fr ≤ 1048576) := Lib.hid (by have h1 := (Go.Proofs.YtendlmdmbkcdnaaGreatDoor.tp.DK.usedq HDKc.out).1; have h2 := HQB.out; omega)
         have i83 : IntKind.i64.wrap (q - ((sumF fs1 : Nat) : Int)) = fr := by rw [hfr, IntKind.wrap_i64]; have h1 := HFB.out; omega
         clear hfr
         have e1 : wc.cell? ⟨wr.heap.size, 1, none⟩ = some (.int .i64 nw) := (HXc.out.cell 1).trans rfl
         have e2 : wc.cell? ⟨wr.heap.size, 2, none⟩ = some (.string ky) := (HXc.out.cell 2).trans rfl
         have e3 : wc.cell? ⟨wr.heap.size, 3, none⟩ = some (.string vl) := (HXc.out.cell 3).trans rfl
         have e4 : wc.cell? ⟨wr.heap.size, 4, none⟩ = some (.bool tb) := (HXc.out.cell 4).trans rfl
         have e5 : wc.cell? ⟨wr.heap.size, 5, none⟩ = some (.int .i64 pid) := (HXc.out.cell 5).trans rfl
         have e6 : wc.cell? ⟨wr.heap.size, 6, none⟩ = some (.int .i64 sq) := (HXc.out.cell 6).trans rfl
         go_wp2_with fail
         refine (app3 wc G1 3 t w.heap.size X1 q fs1 no1 L1 HLc.out.top HLc.out.inv HLc.out.room nw ⟨ky, vl, tb, pid, sq⟩).mono ?_
         rintro e wd ⟨off, ag, er, G2, X2, fs2, no2, L2, rfl, hT2, hx2, hS2, hcase⟩
         have HT2 := Lib.hid hT2
         have HX2 : Hid (Fx (CT 3) G1 G2 wc wd) := Lib.hid hx2
         have HS2 := Lib.hid hS2
         have HCS := Lib.hid hcase
         have HBd : Hid (BookAt wd G2 9 bb (X1.all ++ X1.wr) firm1) := Lib.hid (HLc.out.book.keep hx2 (ct_ne (by decide)) (ct_ne (by decide)))
         have HXd : Hid (BlkR wd G2 wr.heap.size 37 #[.int .i64 1, .int .i64 nw, .string ky, .string vl, .bool tb, .int .i64 pid, .int .i64 sq] none) := Lib.hid ((show BlkR wc G1 wr.heap.size 37 #[.int .i64 1, .int .i64 nw, .string ky, .string vl, .bool tb, .int .i64 pid, .int .i64 sq] none from ⟨HXc.out, HZx.out.1⟩).keep hx2 ct_none)
         have HSd : Hid (BlkR wd G2 wb.heap.size 41 #[.int .i64 (X1.i : Int), .int .i64 (n1 : Int), .int .i64 (X1.en : Int), .int .i64 (X1.man.mark : Int), .int .i64 (X1.clock : Int), .int .i64 (sg : Int), .int .i64 (X1.wr.length : Int), .int .i64 sa, .int .i64 sb, .int .i64 sc] none) := Lib.hid ((show BlkR wc G1 wb.heap.size 41 #[.int .i64 (X1.i : Int), .int .i64 (n1 : Int), .int .i64 (X1.en : Int), .int .i64 (X1.man.mark : Int), .int .i64 (X1.clock : Int), .int .i64 (sg : Int), .int .i64 (X1.wr.length : Int), .int .i64 sa, .int .i64 sb, .int .i64 sc] none from ⟨HSc.out, HZs.out⟩).keep hx2 ct_none)
         clear hT2 hx2 hS2 hcase e1 e2 e3 e4 e5 e6 i83
         go_wp2_with fail
         refine (state_any wd G2 3 t w.heap.size X2 q fs2 no2 L2 HT2.out HS2.out.inv.sth).mono ?_
         rintro e we ⟨⟨ta, tc, td, rfl⟩, hbe⟩
         have HBe := Lib.hid hbe
         clear hbe
         unfold stV
         obtain ⟨n2, hn2⟩ : ∃ z, X2.en + X2.wr.length = z := ⟨_, rfl⟩
         have HN2 := Lib.hid hn2
         obtain ⟨ck, hck⟩ : ∃ z, X2.clock = z := ⟨_, rfl⟩
         have HCK := Lib.hid hck
         rw [hn2, hck]
         clear hn2 hck
         rcases HCS.out with ⟨c1, c2, c3⟩ | ⟨rfl, rfl, c3, _⟩ | ⟨rfl, rfl, rfl, c3⟩
         all_goals clear HCS
         · rw [HN1.out, HCK.out] at c2
           have hl1 : (X1.all ++ X1.wr).length = n1 := by rw [List.length_append, HL.out.inv.all, HN1.out]
           have hn2 : n2 = n1 := by
             have h1 := congrArg List.length c3
             rw [List.length_append, HS2.out.inv.all, HN2.out, hl1] at h1
             exact h1
           have HN21 := Lib.hid hn2
           have HWY := Lib.hid c2
           have HEND : Hid (LW w w.heap.size t bb q wd G2 X2 fs2 no2 L2 firm1) := Lib.hid (HLc.out.next HX2.out ct_none HS2.out HT2.out (by rw [c3]; exact HBd.out) (Nat.le_trans HLc.out.firm HS2.out.en))
           have g0 : (er == 0) = false := by simpa using c1
           have kx2 : ∀ o, (we.alloc o).cell? ⟨wr.heap.size, 2, none⟩ = some (.string ky) := fun o => (((HXd.out.1.below HBe.out HXd.out.1.lt).alloc o).cell 2).trans rfl
           have kx3 : ∀ o, (we.alloc o).cell? ⟨wr.heap.size, 3, none⟩ = some (.string vl) := fun o => (((HXd.out.1.below HBe.out HXd.out.1.lt).alloc o).cell 3).trans rfl
           have kx4 : ∀ o, (we.alloc o).cell? ⟨wr.heap.size, 4, none⟩ = some (.bool tb) := fun o => (((HXd.out.1.below HBe.out HXd.out.1.lt).alloc o).cell 4).trans rfl
           have kx5 : ∀ o, (we.alloc o).cell? ⟨wr.heap.size, 5, none⟩ = some (.int .i64 pid) := fun o => (((HXd.out.1.below HBe.out HXd.out.1.lt).alloc o).cell 5).trans rfl
           have kx6 : ∀ o, (we.alloc o).cell? ⟨wr.heap.size, 6, none⟩ = some (.int .i64 sq) := fun o => (((HXd.out.1.below HBe.out HXd.out.1.lt).alloc o).cell 6).trans rfl
           have ks1 : ∀ o, (we.alloc o).cell? ⟨wb.heap.size, 1, none⟩ = some (.int .i64 (n1 : Int)) := fun o => (((HSd.out.1.below HBe.out HSd.out.1.lt).alloc o).cell 1).trans rfl
           clear c1 c2 c3 hl1 hn2
           go_wp2_with fail
           clear kx2 kx3 kx4 kx5 kx6 ks1
           obtain ⟨wf, hwf⟩ : ∃ y, we.alloc (.cells #[.int .i64 (X2.i : Int), .int .i64 (n2 : Int), .int .i64 (X2.en : Int), .int .i64 (X2.man.mark : Int), .int .i64 (ck : Int), .int .i64 (X2.man.segs.length : Int), .int .i64 (X2.wr.length : Int), .int .i64 ta, .int .i64 tc, .int .i64 td] 41) = y := ⟨_, rfl⟩
           have HBf : Hid (Below wd.heap.size wd wf) := by rw [← hwf]; exact Lib.hid (HBe.out.alloc HBe.out.size _)
           have HSf : Hid (Blk wf we.heap.size 41 #[.int .i64 (X2.i : Int), .int .i64 (n2 : Int), .int .i64 (X2.en : Int), .int .i64 (X2.man.mark : Int), .int .i64 (ck : Int), .int .i64 (X2.man.segs.length : Int), .int .i64 (X2.wr.length : Int), .int .i64 ta, .int .i64 tc, .int .i64 td]) := by rw [← hwf]; exact Lib.hid (Blk.new we _ _)
           rw [hwf]
           clear hwf
           refine (make_any wf ⟨ky, vl, tb, pid, sq⟩ (n1 : Int) (ck : Int)).mono ?_
           rintro e wg ⟨rfl, hbg⟩
           have HBg := Lib.hid hbg
           clear hbg
           unfold Wr.rc at HWY
           unfold Wr.rc Rc.cells
           dsimp only at HWY ⊢
           obtain ⟨rk, hrk⟩ : ∃ k : Int, (if tb then 2 else 1) = k := ⟨_, rfl⟩
           rw [hrk] at HWY ⊢
           clear hrk
           go_wp2_with fail
           obtain ⟨wh, hwh⟩ : ∃ y, wg.alloc (.cells #[.int .i64 rk, .int .i64 (n1 : Int), .int .i64 (ck : Int), .int .i64 pid, .int .i64 sq, .string ky, .string vl] 47) = y := ⟨_, rfl⟩
           have HBh : Hid (Below wf.heap.size wf wh) := by rw [← hwh]; exact Lib.hid (HBg.out.alloc HBg.out.size _)
           have HTh : Hid (Blk wh wg.heap.size 47 #[.int .i64 rk, .int .i64 (n1 : Int), .int .i64 (ck : Int), .int .i64 pid, .int .i64 sq, .string ky, .string vl]) := by rw [← hwh]; exact Lib.hid (Blk.new wg _ _)
           rw [hwh]
           clear hwh
           refine (check_any wh (⟨rk, (n1 : Int), (ck : Int), pid, sq, ky, vl⟩ : Rc)).mono ?_
           rintro e wi ⟨rfl, hbi⟩
           have HBhi : Hid (Below wh.heap.size wh wi) := Lib.hid hbi
           have HBfi : Hid (Below wf.heap.size wf wi) := Lib.hid (HBh.out.trans (hbi.mono HBh.out.size))
           have HBi : Hid (Below wd.heap.size wd wi) := Lib.hid (HBf.out.trans (HBfi.out.mono HBf.out.size))
           clear hbi
           have ks11 : wi.cell? ⟨wb.heap.size, 1, none⟩ = some (.int .i64 (n1 : Int)) := ((HSd.out.1.below HBi.out HSd.out.1.lt).cell 1).trans rfl
           have ks21 : wi.cell? ⟨we.heap.size, 1, none⟩ = some (.int .i64 (n1 : Int)) := ((HSf.out.below (HBfi.out) HSf.out.lt).cell 1).trans (by rw [HN21.out]; rfl)
           have i59 := HI59.out
           rcases HWY.out with ⟨rfl, hn⟩ | ⟨he, hv⟩ | ⟨rfl, hc, hs⟩ | ⟨hv, hc, hp⟩ | ⟨hv, hc, hg⟩
           · have HHN := Lib.hid hn
             obtain ⟨bd, hbd⟩ : ∃ z, checkN (⟨rk, (n1 : Int), (ck : Int), pid, sq, ky, vl⟩ : Rc) = z := ⟨_, rfl⟩
             rw [hbd]
             clear hn hbd
             have kx1 : wi.cell? ⟨wr.heap.size, 1, none⟩ = some (.int .i64 nw) := ((HXd.out.1.below HBi.out HXd.out.1.lt).cell 1).trans rfl
             by_cases hneg : nw < 0
             · have gn : decide (nw < 0) = true := decide_eq_true hneg
               clear hneg
               go_wp2_with fail
               go_roundw
               case rel => exact ⟨k + 1, HLT.out, by go_num, Lib.hid ⟨_, _, _, _, _, _, HEND.out.keep (HBi.out)⟩⟩
               case measure =>
                 have h1 := HLT.out
                 simp [intOf]
                 omega
             · have gn : decide (nw < 0) = false := decide_eq_false hneg
               have gm : decide (1125899906842624 ≤ nw) = true := decide_eq_true (by have h1 := HHN.out; omega)
               clear hneg
               go_wp2_with fail
               go_roundw
               case rel => exact ⟨k + 1, HLT.out, by go_num, Lib.hid ⟨_, _, _, _, _, _, HEND.out.keep (HBi.out)⟩⟩
               case measure =>
                 have h1 := HLT.out
                 simp [intOf]
                 omega
           · rw [← he]
             clear he
             rcases hv with rfl | rfl | rfl | rfl
             · go_wp2_with fail
               go_roundw
               case rel => exact ⟨k + 1, HLT.out, by go_num, Lib.hid ⟨_, _, _, _, _, _, HEND.out.keep (HBi.out)⟩⟩
               case measure =>
                 have h1 := HLT.out
                 simp [intOf]
                 omega
             · go_wp2_with fail
               go_roundw
               case rel => exact ⟨k + 1, HLT.out, by go_num, Lib.hid ⟨_, _, _, _, _, _, HEND.out.keep (HBi.out)⟩⟩
               case measure =>
                 have h1 := HLT.out
                 simp [intOf]
                 omega
             · go_wp2_with fail
               go_roundw
               case rel => exact ⟨k + 1, HLT.out, by go_num, Lib.hid ⟨_, _, _, _, _, _, HEND.out.keep (HBi.out)⟩⟩
               case measure =>
                 have h1 := HLT.out
                 simp [intOf]
                 omega
             · go_wp2_with fail
               go_roundw
               case rel => exact ⟨k + 1, HLT.out, by go_num, Lib.hid ⟨_, _, _, _, _, _, HEND.out.keep (HBi.out)⟩⟩
               case measure =>
                 have h1 := HLT.out
                 simp [intOf]
                 omega
           · rw [hc]
             obtain ⟨sz, hsz⟩ : ∃ z, (encR (⟨rk, (n1 : Int), (ck : Int), pid, sq, ky, vl⟩ : Rc)).length = z := ⟨_, rfl⟩
             have HSZ := Lib.hid hsz
             have HSB : Hid (sz ≤ 1124) := Lib.hid (by rw [← hsz]; exact (encR_size hc).2)
             rw [hsz] at hs
             have gl : decide (fr - (sz : Int) < 4096) = true := decide_eq_true (by have h1 := HFR.out; omega)
             have i160 : IntKind.i64.wrap (fr - (sz : Int)) = fr - (sz : Int) := by have h1 := HFB.out; have h2 := HSB.out; rw [IntKind.wrap_i64]; omega
             clear hc hsz hs
             have kt0 : wi.cell? ⟨wg.heap.size, 0, none⟩ = some (.int .i64 rk) := ((HTh.out.below HBhi.out HTh.out.lt).cell 0).trans rfl
             have kt1 : wi.cell? ⟨wg.heap.size, 1, none⟩ = some (.int .i64 (n1 : Int)) := ((HTh.out.below HBhi.out HTh.out.lt).cell 1).trans rfl
             have kt2 : wi.cell? ⟨wg.heap.size, 2, none⟩ = some (.int .i64 (ck : Int)) := ((HTh.out.below HBhi.out HTh.out.lt).cell 2).trans rfl
             have kt3 : wi.cell? ⟨wg.heap.size, 3, none⟩ = some (.int .i64 pid) := ((HTh.out.below HBhi.out HTh.out.lt).cell 3).trans rfl
             have kt4 : wi.cell? ⟨wg.heap.size, 4, none⟩ = some (.int .i64 sq) := ((HTh.out.below HBhi.out HTh.out.lt).cell 4).trans rfl
             have kt5 : wi.cell? ⟨wg.heap.size, 5, none⟩ = some (.string ky) := ((HTh.out.below HBhi.out HTh.out.lt).cell 5).trans rfl
             have kt6 : wi.cell? ⟨wg.heap.size, 6, none⟩ = some (.string vl) := ((HTh.out.below HBhi.out HTh.out.lt).cell 6).trans rfl
             clear ks11 ks21
             go_wp2_with fail
             refine (size_any wi (⟨rk, (n1 : Int), (ck : Int), pid, sq, ky, vl⟩ : Rc)).mono ?_
             rintro e wj ⟨rfl, hbj⟩
             have HBj : Hid (Below wd.heap.size wd wj) := Lib.hid (HBi.out.trans (hbj.mono HBi.out.size))
             have HBfj : Hid (Below wf.heap.size wf wj) := Lib.hid (HBfi.out.trans (hbj.mono HBfi.out.size))
             have ks11 : wj.cell? ⟨wb.heap.size, 1, none⟩ = some (.int .i64 (n1 : Int)) := ((HSd.out.1.below HBj.out HSd.out.1.lt).cell 1).trans rfl
             have ks21 : wj.cell? ⟨we.heap.size, 1, none⟩ = some (.int .i64 (n1 : Int)) := ((HSf.out.below (HBfj.out) HSf.out.lt).cell 1).trans (by rw [HN21.out]; rfl)
             rw [HSZ.out]
             clear hbj kt0 kt1 kt2 kt3 kt4 kt5 kt6
             go_wp2_with fail
             go_roundw
             case rel => exact ⟨k + 1, HLT.out, by go_num, Lib.hid ⟨_, _, _, _, _, _, HEND.out.keep (HBj.out)⟩⟩
             case measure =>
               have h1 := HLT.out
               simp [intOf]
               omega
           · rw [hc]
             have gp : decide (0 < pid) = true := decide_eq_true hp
             have kx5 : wi.cell? ⟨wr.heap.size, 5, none⟩ = some (.int .i64 pid) := ((HXd.out.1.below HBi.out HXd.out.1.lt).cell 5).trans rfl
             clear hc hp
             rcases hv with rfl | rfl | rfl
             · go_wp2_with fail
               go_roundw
               case rel => exact ⟨k + 1, HLT.out, by go_num, Lib.hid ⟨_, _, _, _, _, _, HEND.out.keep (HBi.out)⟩⟩
               case measure =>
                 have h1 := HLT.out
                 simp [intOf]
                 omega
             · go_wp2_with fail
               go_roundw
               case rel => exact ⟨k + 1, HLT.out, by go_num, Lib.hid ⟨_, _, _, _, _, _, HEND.out.keep (HBi.out)⟩⟩
               case measure =>
                 have h1 := HLT.out
                 simp [intOf]
                 omega
             · go_wp2_with fail
               go_roundw
               case rel => exact ⟨k + 1, HLT.out, by go_num, Lib.hid ⟨_, _, _, _, _, _, HEND.out.keep (HBi.out)⟩⟩
               case measure =>
                 have h1 := HLT.out
                 simp [intOf]
                 omega
           · rw [hc]
             have ks15 : wi.cell? ⟨wb.heap.size, 5, none⟩ = some (.int .i64 64) := ((HSd.out.1.below HBi.out HSd.out.1.lt).cell 5).trans (by rw [← HSG.out, hg]; rfl)
             clear hc hg
             rcases hv with rfl | rfl
             · go_wp2_with fail
               go_roundw
               case rel => exact ⟨k + 1, HLT.out, by go_num, Lib.hid ⟨_, _, _, _, _, _, HEND.out.keep (HBi.out)⟩⟩
               case measure =>
                 have h1 := HLT.out
                 simp [intOf]
                 omega
             · go_wp2_with fail
               go_roundw
               case rel => exact ⟨k + 1, HLT.out, by go_num, Lib.hid ⟨_, _, _, _, _, _, HEND.out.keep (HBi.out)⟩⟩
               case measure =>
                 have h1 := HLT.out
                 simp [intOf]
                 omega
         · have HEND : Hid (LW w w.heap.size t bb q (we.alloc (.cells #[.int .i64 (X2.i : Int), .int .i64 (n2 : Int), .int .i64 (X2.en : Int), .int .i64 (X2.man.mark : Int), .int .i64 (ck : Int), .int .i64 (X2.man.segs.length : Int), .int .i64 (X2.wr.length : Int), .int .i64 ta, .int .i64 tc, .int .i64 td] 41)) G2 X2 fs2 no2 L2 firm1) := Lib.hid ((HLc.out.next HX2.out ct_none HS2.out HT2.out (by rw [c3]; exact HBd.out) (Nat.le_trans HLc.out.firm HS2.out.en)).keep (HBe.out.alloc HBe.out.size _))
           clear c3
           have i59 := HI59.out
           go_wp2_with fail
           go_roundw
           case rel => exact ⟨k + 1, HLT.out, by go_num, Lib.hid ⟨_, _, _, _, _, _, HEND.out⟩⟩
           case measure =>
             have h1 := HLT.out
             simp [intOf]
             omega
         · rw [HN1.out] at c3 ⊢
           have hl1 : (X1.all ++ X1.wr).length = n1 := by rw [List.length_append, HL.out.inv.all, HN1.out]
           have hn2 : n2 = n1 + 1 := by
             have h1 := congrArg List.length c3
             rw [List.length_append, List.length_append, HS2.out.inv.all, HN2.out, hl1] at h1
             simpa using h1
           have HN21 := Lib.hid hn2
           have i111 : IntKind.i64.wrap ((n1 : Int) + 1) = (n2 : Int) := by have h1 := HN1B.out; rw [IntKind.wrap_i64]; omega
           obtain ⟨A1, c1, hbk, hrw⟩ := HBd.out
           rw [hl1] at hbk hrw
           have HBK := Lib.hid hbk
           have HRW := Lib.hid hrw
           have HAL := Lib.hid c3
           have kb : ∀ o, (we.alloc o).cell? ⟨bb, 0, none⟩ = some (.slice A1 n1 c1) := fun o => (((hbk.1.below HBe.out hbk.1.lt).alloc o).cell 0).trans rfl
           have ks1 : ∀ o, (we.alloc o).cell? ⟨wb.heap.size, 1, none⟩ = some (.int .i64 (n1 : Int)) := fun o => (((HSd.out.1.below HBe.out HSd.out.1.lt).alloc o).cell 1).trans rfl
           clear c3 hl1 hn2 hbk hrw
           go_wp2_with fail
           clear kb ks1 i111
           obtain ⟨wf, hwf⟩ : ∃ y, we.alloc (.cells #[.int .i64 (X2.i : Int), .int .i64 (n2 : Int), .int .i64 (X2.en : Int), .int .i64 (X2.man.mark : Int), .int .i64 (ck : Int), .int .i64 (X2.man.segs.length : Int), .int .i64 (X2.wr.length : Int), .int .i64 ta, .int .i64 tc, .int .i64 td] 41) = y := ⟨_, rfl⟩
           have HBf : Hid (Below wd.heap.size wd wf) := by rw [← hwf]; exact Lib.hid (HBe.out.alloc HBe.out.size _)
           have HSf : Hid (Blk wf we.heap.size 41 #[.int .i64 (X2.i : Int), .int .i64 (n2 : Int), .int .i64 (X2.en : Int), .int .i64 (X2.man.mark : Int), .int .i64 (ck : Int), .int .i64 (X2.man.segs.length : Int), .int .i64 (X2.wr.length : Int), .int .i64 ta, .int .i64 tc, .int .i64 td]) := by rw [← hwf]; exact Lib.hid (Blk.new we _ _)
           have HF2 : Hid (Fin G2 wd) := by obtain ⟨p, h⟩ := HT2.out; exact Lib.hid h.fin
           have HZ2 : Hid (Is G2 we.heap.size none) := Lib.hid (HF2.out _ HBe.out.size)
           rw [hwf]
           clear hwf
           refine wp_region_head 15 (PhR bb wr.heap.size we.heap.size #[.slice A1 n1 c1, .int .i64 (firm1 : Int)] #[.int .i64 1, .int .i64 nw, .string ky, .string vl, .bool tb, .int .i64 pid, .int .i64 sq] #[.int .i64 (X2.i : Int), .int .i64 (n2 : Int), .int .i64 (X2.en : Int), .int .i64 (X2.man.mark : Int), .int .i64 (ck : Int), .int .i64 (X2.man.segs.length : Int), .int .i64 (X2.wr.length : Int), .int .i64 ta, .int .i64 tc, .int .i64 td]) (by kernel_rfl) (by kernel_rfl) (fun w3 hh3 hb3 => ?_)
           have HB3 : Hid (Below wd.heap.size wd w3) := Lib.hid (HBf.out.trans (hb3.mono HBf.out.size))
           have HP3 : Hid ((PhR bb wr.heap.size we.heap.size #[.slice A1 n1 c1, .int .i64 (firm1 : Int)] #[.int .i64 1, .int .i64 nw, .string ky, .string vl, .bool tb, .int .i64 pid, .int .i64 sq] #[.int .i64 (X2.i : Int), .int .i64 (n2 : Int), .int .i64 (X2.en : Int), .int .i64 (X2.man.mark : Int), .int .i64 (ck : Int), .int .i64 (X2.man.segs.length : Int), .int .i64 (X2.wr.length : Int), .int .i64 ta, .int .i64 tc, .int .i64 td]) w3) := Lib.hid ⟨HBK.out.1.below HB3.out HBK.out.1.lt, HXd.out.1.below HB3.out HXd.out.1.lt, HSf.out.below hb3 HSf.out.lt⟩
           have hne0 : Nonempty (Held (PhR bb wr.heap.size we.heap.size #[.slice A1 n1 c1, .int .i64 (firm1 : Int)] #[.int .i64 1, .int .i64 nw, .string ky, .string vl, .bool tb, .int .i64 pid, .int .i64 sq] #[.int .i64 (X2.i : Int), .int .i64 (n2 : Int), .int .i64 (X2.en : Int), .int .i64 (X2.man.mark : Int), .int .i64 (ck : Int), .int .i64 (X2.man.segs.length : Int), .int .i64 (X2.wr.length : Int), .int .i64 ta, .int .i64 tc, .int .i64 td])) := ⟨⟨_, HP3.out⟩⟩
           have k0 : ∀ p' : Held (PhR bb wr.heap.size we.heap.size #[.slice A1 n1 c1, .int .i64 (firm1 : Int)] #[.int .i64 1, .int .i64 nw, .string ky, .string vl, .bool tb, .int .i64 pid, .int .i64 sq] #[.int .i64 (X2.i : Int), .int .i64 (n2 : Int), .int .i64 (X2.en : Int), .int .i64 (X2.man.mark : Int), .int .i64 (ck : Int), .int .i64 (X2.man.segs.length : Int), .int .i64 (X2.wr.length : Int), .int .i64 ta, .int .i64 tc, .int .i64 td]), p'.w.cell? ⟨bb, 0, none⟩ = some (.slice A1 n1 c1) := fun p' => (p'.h.1.cell 0).trans rfl
           have k4 : ∀ p' : Held (PhR bb wr.heap.size we.heap.size #[.slice A1 n1 c1, .int .i64 (firm1 : Int)] #[.int .i64 1, .int .i64 nw, .string ky, .string vl, .bool tb, .int .i64 pid, .int .i64 sq] #[.int .i64 (X2.i : Int), .int .i64 (n2 : Int), .int .i64 (X2.en : Int), .int .i64 (X2.man.mark : Int), .int .i64 (ck : Int), .int .i64 (X2.man.segs.length : Int), .int .i64 (X2.wr.length : Int), .int .i64 ta, .int .i64 tc, .int .i64 td]), p'.w.cell? ⟨we.heap.size, 4, none⟩ = some (.int .i64 (ck : Int)) := fun p' => (p'.h.2.2.cell 4).trans rfl
           have kE : ∀ w', (∃ p' : Held (PhR bb wr.heap.size we.heap.size #[.slice A1 n1 c1, .int .i64 (firm1 : Int)] #[.int .i64 1, .int .i64 nw, .string ky, .string vl, .bool tb, .int .i64 pid, .int .i64 sq] #[.int .i64 (X2.i : Int), .int .i64 (n2 : Int), .int .i64 (X2.en : Int), .int .i64 (X2.man.mark : Int), .int .i64 (ck : Int), .int .i64 (X2.man.segs.length : Int), .int .i64 (X2.wr.length : Int), .int .i64 ta, .int .i64 tc, .int .i64 td]), w' = p'.w) → ∀ (j : Nat) (v : Value), ([.string ky, .string vl, .bool tb, .int .i64 pid, .int .i64 sq] : List Value)[j]? = some v → w'.cell? (Addr.add ⟨wr.heap.size, 2, none⟩ j) = some v := by
             rintro w' ⟨p', rfl⟩ j v hj
             rw [add_flat, p'.h.2.1.cell, ← hj]
             rcases j with _ | _ | _ | _ | _ | j <;> first | rfl | (simp at hj)
           clear hh3 hb3
           refine headI_batch 0 10 (by kernel_rfl) (by kernel_rfl) HP3.out ?_
           simp only [List.take, List.drop]
           repeat (first | go_big_quiet_skip | (with_reducible refine wpQuiet_load_list (o := ⟨some 120, .load 35 (.tmp 119), _, _, _, _⟩) rfl 35 (.tmp 119) rfl ⟨wr.heap.size, 2, none⟩ rfl [.string ky, .string vl, .bool tb, .int .i64 pid, .int .i64 sq] kE _ Tryz.underlying35 rfl (by kernel_rfl) ?_; simp only [Act.put, List.setIfInBounds_toArray, List.set_cons_succ, List.set_cons_zero]) | (go_big_quiet_want; go_big_quiet_op; go_big_quiet_on))
           refine wpQuiet_nil ?_
           clear k0 k4 kE hne0
           refine headI_loud 10 (by kernel_rfl) (by kernel_rfl) HP3.out ?_
           simp only [List.take, List.drop]
           go_wp2_with fail
           refine (make_any w3 ⟨ky, vl, tb, pid, sq⟩ (n1 : Int) (ck : Int)).mono ?_
           rintro e w5 ⟨rfl, hb5⟩
           have HB5 : Hid (Below wd.heap.size wd w5) := Lib.hid (HB3.out.trans (hb5.mono HB3.out.size))
           have HP5 : Hid ((PhR bb wr.heap.size we.heap.size #[.slice A1 n1 c1, .int .i64 (firm1 : Int)] #[.int .i64 1, .int .i64 nw, .string ky, .string vl, .bool tb, .int .i64 pid, .int .i64 sq] #[.int .i64 (X2.i : Int), .int .i64 (n2 : Int), .int .i64 (X2.en : Int), .int .i64 (X2.man.mark : Int), .int .i64 (ck : Int), .int .i64 (X2.man.segs.length : Int), .int .i64 (X2.wr.length : Int), .int .i64 ta, .int .i64 tc, .int .i64 td]) w5) := Lib.hid ⟨HP3.out.1.below hb5 HP3.out.1.lt, HP3.out.2.1.below hb5 HP3.out.2.1.lt, HP3.out.2.2.below hb5 HP3.out.2.2.lt⟩
           clear hb5
           unfold Wr.rc Rc.cells
           dsimp only
           obtain ⟨rk, hrk⟩ : ∃ k : Int, (if tb then 2 else 1) = k := ⟨_, rfl⟩
           have HRK := Lib.hid hrk
           rw [hrk]
           clear hrk
           go_wp2_with fail
           refine ⟨rfl, ?_⟩
           refine headI_loud 11 (by kernel_rfl) (by kernel_rfl) HP5.out ?_
           simp only [List.take, List.drop]
           go_wp2_with fail
           refine ⟨rfl, ?_⟩
           have HP6 : Hid ((PhR bb wr.heap.size we.heap.size #[.slice A1 n1 c1, .int .i64 (firm1 : Int)] #[.int .i64 1, .int .i64 nw, .string ky, .string vl, .bool tb, .int .i64 pid, .int .i64 sq] #[.int .i64 (X2.i : Int), .int .i64 (n2 : Int), .int .i64 (X2.en : Int), .int .i64 (X2.man.mark : Int), .int .i64 (ck : Int), .int .i64 (X2.man.segs.length : Int), .int .i64 (X2.wr.length : Int), .int .i64 ta, .int .i64 tc, .int .i64 td]) (w5.alloc (.cells #[.int .i64 rk, .int .i64 (n1 : Int), .int .i64 (ck : Int), .int .i64 pid, .int .i64 sq, .string ky, .string vl] 47))) := Lib.hid ⟨HP5.out.1.alloc _, HP5.out.2.1.alloc _, HP5.out.2.2.alloc _⟩
           have HRW5 := Lib.hid (HRW.out.keep (C := CN) (Fx.below HB5.out) (fun h => h))
           obtain ⟨i9, hi9, hz90, hz91, hz92⟩ := info_parts infoR
           have HMX : Hid (n1 + 1 ≤ maxLen) := Lib.hid (by have h1 := HN1B.out; unfold maxLen; omega)
           have HLM : Hid ((n1 + 1) * 72 ≤ 140737488355328) := Lib.hid (by have h1 := HN1B.out; omega)
           refine headI_loud 12 (by kernel_rfl) (by kernel_rfl) HP6.out ?_
           simp only [List.take, List.drop]
           go_wp2_with (first
             | (at_builtin; go_must (refine wpList_append_own_at _ rfl _ _ 31 rfl 0 47 i9 _ 7 72 Tryz.underlying31 hi9 hz90 hz91 hz92 rfl (by decide) (.slice A1 n1 c1) n1 _ rfl (HRW5.out.1.alloc _) ⟨w5.heap.size, 0, none⟩ 1 1 [.int .i64 rk, .int .i64 (n1 : Int), .int .i64 (ck : Int), .int .i64 pid, .int .i64 sq, .string ky, .string vl] rfl rfl (by exact Go.Proofs.YtendlmdmbkcdnaaGreatDoor.dd.cells_new w5 47 [.int .i64 rk, .int .i64 (n1 : Int), .int .i64 (ck : Int), .int .i64 pid, .int .i64 sq, .string ky, .string vl]) (by simp [Value.oneCell']) HMX.out HLM.out (Nat.zero_le _) ?_; intro v8 w8 hown8 hgr8 _ hloc8; have HO8 := Lib.hid hown8; have HG8 := Lib.hid hgr8; have HL8 := Lib.hid hloc8; clear hown8 hgr8 hloc8))
             | fail)
           refine ⟨rfl, ?_⟩
           obtain ⟨A8, c8, rfl⟩ := own_slice HO8.out
           obtain ⟨G8, hrow8, hx8, hf8, hn8⟩ := row_app HRW5.out ((Below.refl _ _).alloc (Nat.le_refl _) (.cells #[.int .i64 rk, .int .i64 (n1 : Int), .int .i64 (ck : Int), .int .i64 pid, .int .i64 sq, .string ky, .string vl] 47)) HG8.out HO8.out (Nat.succ_pos _) HL8.out (HF2.out.more HB5.out.size)
           have HR8 := Lib.hid hrow8
           have HX8 : Hid (Fx (CR (some (9, .waits))) G2 G8 w5 w8) := Lib.hid hx8
           have HF8 := Lib.hid hf8
           have HN8 := Lib.hid hn8
           have HBK8 : Hid (BlkR w8 G8 bb 33 #[.slice A1 n1 c1, .int .i64 (firm1 : Int)] (some (9, .top))) := Lib.hid ((show BlkR w5 G2 bb 33 #[.slice A1 n1 c1, .int .i64 (firm1 : Int)] (some (9, .top)) from ⟨HP5.out.1, HBK.out.2⟩).keep hx8 (by rintro ⟨_, e⟩; cases e))
           have HXB8 : Hid (BlkR w8 G8 wr.heap.size 37 #[.int .i64 1, .int .i64 nw, .string ky, .string vl, .bool tb, .int .i64 pid, .int .i64 sq] none) := Lib.hid ((show BlkR w5 G2 wr.heap.size 37 #[.int .i64 1, .int .i64 nw, .string ky, .string vl, .bool tb, .int .i64 pid, .int .i64 sq] none from ⟨HP5.out.2.1, HXd.out.2⟩).keep hx8 (by rintro ⟨_, e⟩; cases e))
           have HSB8 : Hid (BlkR w8 G8 we.heap.size 41 #[.int .i64 (X2.i : Int), .int .i64 (n2 : Int), .int .i64 (X2.en : Int), .int .i64 (X2.man.mark : Int), .int .i64 (ck : Int), .int .i64 (X2.man.segs.length : Int), .int .i64 (X2.wr.length : Int), .int .i64 ta, .int .i64 tc, .int .i64 td] none) := Lib.hid ((show BlkR w5 G2 we.heap.size 41 #[.int .i64 (X2.i : Int), .int .i64 (n2 : Int), .int .i64 (X2.en : Int), .int .i64 (X2.man.mark : Int), .int .i64 (ck : Int), .int .i64 (X2.man.segs.length : Int), .int .i64 (X2.wr.length : Int), .int .i64 ta, .int .i64 tc, .int .i64 td] none from ⟨HP5.out.2.2, HZ2.out⟩).keep hx8 (by rintro ⟨_, e⟩; cases e))
           have HP8 : Hid ((PhR bb wr.heap.size we.heap.size #[.slice A1 n1 c1, .int .i64 (firm1 : Int)] #[.int .i64 1, .int .i64 nw, .string ky, .string vl, .bool tb, .int .i64 pid, .int .i64 sq] #[.int .i64 (X2.i : Int), .int .i64 (n2 : Int), .int .i64 (X2.en : Int), .int .i64 (X2.man.mark : Int), .int .i64 (ck : Int), .int .i64 (X2.man.segs.length : Int), .int .i64 (X2.wr.length : Int), .int .i64 ta, .int .i64 tc, .int .i64 td]) w8) := Lib.hid ⟨HBK8.out.1, HXB8.out.1, HSB8.out.1⟩
           clear hrow8 hx8 hf8 hn8 HP6 HO8 HG8 HL8 hi9 hz90 hz91 hz92
           have hne0 : Nonempty (Held (PhR bb wr.heap.size we.heap.size #[.slice A1 n1 c1, .int .i64 (firm1 : Int)] #[.int .i64 1, .int .i64 nw, .string ky, .string vl, .bool tb, .int .i64 pid, .int .i64 sq] #[.int .i64 (X2.i : Int), .int .i64 (n2 : Int), .int .i64 (X2.en : Int), .int .i64 (X2.man.mark : Int), .int .i64 (ck : Int), .int .i64 (X2.man.segs.length : Int), .int .i64 (X2.wr.length : Int), .int .i64 ta, .int .i64 tc, .int .i64 td])) := ⟨⟨_, HP8.out⟩⟩
           refine headI_batch 13 2 (by kernel_rfl) (by kernel_rfl) HP8.out ?_
           simp only [List.take, List.drop]
           repeat (first | go_big_quiet_skip | (go_big_quiet_want; go_big_quiet_op; go_big_quiet_on))
           refine wpQuiet_nil ?_
           clear hne0
           refine headI_end (by kernel_rfl) HP8.out ?_
           simp only [List.take, List.drop]
           have i59 := HI59.out
           go_wp2_with (first
             | ((with_reducible refine at_op ⟨none, .store 31 (.tmp 128) (.tmp 126), _, _, _, _⟩ ?_); refine wpList_store_one rfl 31 (.tmp 128) (.tmp 126) rfl bb 0 rfl (.slice A8 (n1 + 1) c8) rfl rfl rfl 33 _ HBK8.out.1 (by simp) (by kernel_rfl) ?_; intro w9 hT9 hg9 hz9; clear hz9; have HT9 : Hid (Blk w9 bb 33 #[.slice A8 (n1 + 1) c8, .int .i64 (firm1 : Int)]) := Lib.hid hT9; have HX9 : Hid (Fx (CR (some (9, .top))) G8 G8 w8 w9) := Lib.hid (Fx.grown hg9 HBK8.out.2); clear hT9 hg9)
             | fail)
           have HEND : Hid (LW w w.heap.size t bb q w9 G8 X2 fs2 no2 L2 firm1) := Lib.hid (by
             have hfx : Fx (CB 9) G2 G8 wd w9 := ((Fx.below HB5.out).trans (HX8.out.mono (fun t r h => ⟨h.1, Or.inr h.2⟩))).trans (HX9.out.mono (fun t r h => ⟨h.1, Or.inl h.2⟩))
             have hl2 : X2.all ++ X2.wr = X1.all ++ X1.wr ++ [(⟨rk, (n1 : Int), (ck : Int), pid, sq, ky, vl⟩ : Rc)] := by
               rw [HAL.out, HCK.out, ← HRK.out]
               rfl
             have hl3 : (X2.all ++ X2.wr).length = n1 + 1 := by
               rw [hl2, List.length_append, List.length_append, HL.out.inv.all, HN1.out]
               rfl
             refine HLc.out.next (C := CDo 3 9) ((HX2.out.mono cdo_t).trans (hfx.mono (fun t r h => Or.inr h))) cdo_none HS2.out ?_ ?_ (Nat.le_trans HLc.out.firm HS2.out.en)
             · obtain ⟨p, h⟩ := HT2.out
               exact ⟨p, h.keep hfx (HF8.out.more HX9.out.size) (fun i hi => by rw [HN8.out]; exact (HF2.out i hi).1) (fun _ _ h => h.1) (fun pp => by rintro ⟨_, h | h⟩ <;> (injection h with h; injection h with h; exact absurd h (by decide))) (by rintro ⟨_, h⟩; simp at h)⟩
             · refine ⟨A8, c8, ?_, ?_⟩
               · rw [hl3]
                 exact ⟨HT9.out, HBK8.out.2⟩
               · have h5 := HR8.out.keep HX9.out (by rintro ⟨_, e⟩; cases e)
                 rw [hl3, hl2, List.flatMap_append]
                 exact h5)
           try simp only [Act.put]
           try go_wp2_with fail
           go_roundw
           case rel => exact ⟨k + 1, HLT.out, by go_num, Lib.hid ⟨_, _, _, _, _, _, HEND.out⟩⟩
           case measure =>
             have h1 := HLT.out
             simp [intOf]
             omega
       · have g2 : (kd != 1) = true := by simpa using hk1
         clear hk1
         go_wp2_with fail
         obtain ⟨wa, hwa⟩ : ∃ y, wr.alloc (.cells #[.int .i64 kd, .int .i64 nw, .string ky, .string vl, .bool tb, .int .i64 pid, .int .i64 sq] 37) = y := ⟨_, rfl⟩
         have HLa : Hid (LW w w.heap.size t bb q wa G1 X1 fs1 no1 L1 firm1) := by rw [← hwa]; exact Lib.hid (HL.out.keep ((Below.refl _ _).alloc (Nat.le_refl _) _))
         rw [hwa]
         clear hwa e0 e1 e2 e3 e4 e5 e6
         refine (do_lw w wa G1 t w.heap.size bb X1 q fs1 no1 L1 firm1 HLa.out ⟨2, 0, ⟨⟨#[]⟩, ⟨#[]⟩, false, 0, 0⟩⟩ (fun h => absurd h (show ¬ (2 : Int) = 3 by decide))).mono ?_
         rintro e wb ⟨rfl, G2, X2, fs2, no2, L2, h2, _⟩
         have HLb := Lib.hid h2
         clear h2
         have i59 := HI59.out
         go_wp2_with fail
         go_roundw
         case rel => exact ⟨k + 1, HLT.out, by go_num, Lib.hid ⟨_, _, _, _, _, _, HLb.out⟩⟩
         case measure =>
           have h1 := HLT.out
           simp [intOf]
           omega
     · have g1 : decide ((k : Int) < (n : Int)) = false := decide_eq_false (by omega)
       clear hk
       go_wp2_with fail
       refine (do_lw w wr G1 t w.heap.size bb X1 q fs1 no1 L1 firm1 HL.out ⟨2, 0, ⟨⟨#[]⟩, ⟨#[]⟩, false, 0, 0⟩⟩ (fun h => absurd h (show ¬ (2 : Int) = 3 by decide))).mono ?_
       rintro e wb ⟨rfl, G2, X2, fs2, no2, L2, h2, hw2⟩
       have HLb := Lib.hid h2
       have HW2 : Hid (X2.wr = []) := Lib.hid (hw2 rfl)
       clear h2 hw2
       go_wp2_with fail
       refine (records_any wb G2 3 t w.heap.size X2 q fs2 no2 L2 HLb.out.top HLb.out.inv.rowsOk).mono ?_
       rintro e wc ⟨A5, c5, rfl, ho5, hb5⟩
       have HO5 := Lib.hid ho5
       have HB5 := Lib.hid hb5
       clear ho5 hb5
       obtain ⟨A6, c6, hbk, hrw⟩ := HLb.out.book
       rw [HW2.out, List.append_nil] at hbk hrw
       have HR5 : Hid (RcsAt wc A5 X2.all) := Lib.hid (RcsAt.of_own HO5.out)
       have HR6 : Hid (RcsAt wc A6 X2.all) := Lib.hid ((RcsAt.of_own hrw.1).below HB5.out)
       have k0 : wc.cell? ⟨bb, 0, none⟩ = some (.slice A6 X2.all.length c6) := ((hbk.1.below HB5.out hbk.1.lt).cell 0).trans rfl
       have HAS : Hid (Calls Tryz.prog 18 #[.slice A5 X2.all.length c5, .slice A6 X2.all.length c6] wc fun e w' => e = .returned (.bool true) ∧ Below wc.heap.size wc w') := Lib.hid (alike_same wc A5 A6 c5 c6 X2.all HR5.out HR6.out (by rw [HLb.out.inv.all]; have := HLb.out.inv.en2; omega))
       have HFB : Hid (Below w.heap.size w wc) := Lib.hid (HLb.out.below.trans (HB5.out.mono HLb.out.below.size))
       obtain ⟨m, hm⟩ : ∃ z, X2.all.length = z := ⟨_, rfl⟩
       rw [hm] at k0 HAS
       rw [hm]
       clear hbk hrw hm
       go_wp2_with fail
       refine HAS.out.mono ?_
       rintro e wd ⟨rfl, hb7⟩
       have HB7 := Lib.hid hb7
       clear hb7 k0
       go_wp2_with fail
       go_ret
       exact ⟨rfl, HFB.out.trans (HB7.out.mono HFB.out.size)⟩
 · have HB2 := Lib.hid hb
   have g1 : decide (q < 200) = true := decide_eq_true hq
   clear hb hq
   go_wp2_with fail
   go_ret
   exact ⟨rfl, HB2.out⟩
end Go.Proofs.YtendlmdmbkcdnaaGreatDoor.tp
namespace Go.Proofs.YtendlmdmbkcdnaaGreatDoor.tp
open Go.RowKit Go.Maps Go.WideMaps Go.ChangeShapes Go.WideShapes Go.Deep oc rc gh
set_option maxRecDepth 100000
theorem cells_do : Tryz.prog.cellsOf 37 = 7 := by kernel_rfl
theorem cells_wr : Tryz.prog.cellsOf 35 = 5 := by kernel_rfl
theorem cells_int : Tryz.prog.cellsOf 3 = 1 := by kernel_rfl
theorem cells_int64 : Tryz.prog.cellsOf 2 = 1 := by kernel_rfl
theorem cells_str : Tryz.prog.cellsOf 9 = 1 := by kernel_rfl
theorem cells_bool : Tryz.prog.cellsOf 4 = 1 := by kernel_rfl
section
variable {H : Type} {enc : TypeId × Value → H} {W : World}
theorem open_do {n : Nat} {cs : List Value} {x : DataW H × List MemPlace} (h : DataW.trod enc Tryz.prog W 0 (fun _ => true) true n 37 cs = some x) : ∃ y : Dx, cs = y.cells.toList := by
 obtain ⟨ys, n1, _, _, hcl, hyl, hf⟩ := DataW.trod_struct Tryz.underlying37 h
 rw [cells_do] at hcl
 match cs, hcl with
 | [c0, c1, c2, c3, c4, c5, c6], _ =>
   have hy : ∀ i, i < 3 → ∃ y, ys[i]? = some y := fun i hi => ⟨_, List.getElem?_eq_getElem (by rw [hyl]; exact hi)⟩
   obtain ⟨y0, e0⟩ := hy 0 (by decide)
   obtain ⟨y1, e1⟩ := hy 1 (by decide)
   obtain ⟨y2, e2⟩ := hy 2 (by decide)
   have h0 : DataW.trod enc Tryz.prog W 0 (fun _ => true) true n1 3 ((([c0, c1, c2, c3, c4, c5, c6] : List Value).drop 0).take (Tryz.prog.cellsOf 3)) = ys[0]? := hf 0 _ rfl
   have h1 : DataW.trod enc Tryz.prog W 0 (fun _ => true) true n1 2 ((([c0, c1, c2, c3, c4, c5, c6] : List Value).drop 1).take (Tryz.prog.cellsOf 2)) = ys[1]? := hf 1 _ rfl
   have h2 : DataW.trod enc Tryz.prog W 0 (fun _ => true) true n1 35 ((([c0, c1, c2, c3, c4, c5, c6] : List Value).drop 2).take (Tryz.prog.cellsOf 35)) = ys[2]? := hf 2 _ rfl
   rw [cells_int, e0] at h0
   rw [cells_int64, e1] at h1
   rw [cells_wr, e2] at h2
   obtain ⟨q0, hq0, _, _⟩ := DataW.trod_int (k := .i64) (by kernel_rfl) h0
   obtain ⟨q1, hq1, _, _⟩ := DataW.trod_int (k := .i64) (by kernel_rfl) h1
   obtain ⟨zs, n2, _, _, _, hzl, hg⟩ := DataW.trod_struct Tryz.underlying35 h2
   have hz : ∀ i, i < 5 → ∃ y, zs[i]? = some y := fun i hi => ⟨_, List.getElem?_eq_getElem (by rw [hzl]; exact hi)⟩
   obtain ⟨z0, d0⟩ := hz 0 (by decide)
   obtain ⟨z1, d1⟩ := hz 1 (by decide)
   obtain ⟨z2, d2⟩ := hz 2 (by decide)
   obtain ⟨z3, d3⟩ := hz 3 (by decide)
   obtain ⟨z4, d4⟩ := hz 4 (by decide)
   have g0 : DataW.trod enc Tryz.prog W 0 (fun _ => true) true n2 9 ((([c2, c3, c4, c5, c6] : List Value).drop 0).take (Tryz.prog.cellsOf 9)) = zs[0]? := hg 0 _ rfl
   have g1 : DataW.trod enc Tryz.prog W 0 (fun _ => true) true n2 9 ((([c2, c3, c4, c5, c6] : List Value).drop 1).take (Tryz.prog.cellsOf 9)) = zs[1]? := hg 1 _ rfl
   have g2 : DataW.trod enc Tryz.prog W 0 (fun _ => true) true n2 4 ((([c2, c3, c4, c5, c6] : List Value).drop 2).take (Tryz.prog.cellsOf 4)) = zs[2]? := hg 2 _ rfl
   have g3 : DataW.trod enc Tryz.prog W 0 (fun _ => true) true n2 2 ((([c2, c3, c4, c5, c6] : List Value).drop 3).take (Tryz.prog.cellsOf 2)) = zs[3]? := hg 3 _ rfl
   have g4 : DataW.trod enc Tryz.prog W 0 (fun _ => true) true n2 2 ((([c2, c3, c4, c5, c6] : List Value).drop 4).take (Tryz.prog.cellsOf 2)) = zs[4]? := hg 4 _ rfl
   rw [cells_str, d0] at g0
   rw [cells_str, d1] at g1
   rw [cells_bool, d2] at g2
   rw [cells_int64, d3] at g3
   rw [cells_int64, d4] at g4
   obtain ⟨s0, hs0, _, _⟩ := DataW.trod_string Tryz.underlying9 g0
   obtain ⟨s1, hs1, _, _⟩ := DataW.trod_string Tryz.underlying9 g1
   obtain ⟨b2, hb2, _⟩ := DataW.trod_bool Tryz.underlying4 g2
   obtain ⟨q3, hq3, _, _⟩ := DataW.trod_int (k := .i64) (by kernel_rfl) g3
   obtain ⟨q4, hq4, _, _⟩ := DataW.trod_int (k := .i64) (by kernel_rfl) g4
   refine ⟨⟨q0, q1, ⟨s0, s1, b2, q3, q4⟩⟩, ?_⟩
   simp at hq0 hq1 hs0 hs1 hb2 hq3 hq4
   subst hq0 hq1 hs0 hs1 hb2 hq3 hq4
   rfl
theorem open_dos {fuel : Nat} {a0 : Option Addr} {len cap : Nat} {x : DataW H × List MemPlace} (h : DataW.trod enc Tryz.prog W 0 (fun _ => true) true fuel 22 (Value.slice a0 len cap).cells.toList = some x) :
   ∃ l : List Dx, len = l.length ∧ DosAt W a0 l ∧ l.length ≤ 9223372036854775807 := by
 rcases open_slice Tryz.underlying22 h with ⟨hcs, _⟩ | ⟨a, len', cap', m, n, D, Pl, hcs, _, hl, hm, hmm, hx, hi⟩
 · simp [Value.cells] at hcs
   obtain ⟨rfl, rfl, rfl⟩ := hcs
   exact ⟨[], rfl, fun hn => absurd hn (Nat.lt_irrefl _), by decide⟩
 · simp [Value.cells] at hcs
   obtain ⟨rfl, rfl, rfl⟩ := hcs
   simp only [if_true] at hmm
   subst hmm
   have hrow : ∀ i, i < m → ∃ y : Dx, ∀ (j : Nat) v, y.cells[j]? = some v → W.cell? (a.add (i * 7 + j)) = some v := by
     intro i him
     obtain ⟨cs', hc, ht⟩ := hi i him
     rw [cells_do] at hc
     obtain ⟨_, hcl, hat⟩ := World.cells?_some hc
     obtain ⟨y, rfl⟩ := open_do ht
     refine ⟨y, fun j v hj => ?_⟩
     have hlt : j < 7 := (Array.getElem?_eq_some_iff.1 hj).1
     have h1 := hat j hlt
     try rw [cells_do] at h1
     rw [Go.Deep.add_add] at h1
     rw [h1, ← hj]
     simp
   have hmx : m ≤ 9223372036854775807 := by unfold maxLen at hm; omega
   refine ⟨(List.range len).map fun i => if h : i < m then Classical.choose (hrow i h) else ⟨0, 0, ⟨⟨#[]⟩, ⟨#[]⟩, false, 0, 0⟩⟩, by simp, fun hn => ?_, by simp; omega⟩
   have hpos : 0 < len := by simpa using hn
   have hget : ∀ (i : Nat) (y : Dx), ((List.range len).map fun i => if h : i < m then Classical.choose (hrow i h) else ⟨0, 0, ⟨⟨#[]⟩, ⟨#[]⟩, false, 0, 0⟩⟩)[i]? = some y → ∀ (j : Nat) v, y.cells[j]? = some v → W.cell? (a.add (i * 7 + j)) = some v := by
     intro i y hy j v hj
     rw [List.getElem?_map] at hy
     obtain ⟨k, hk, rfl⟩ := Option.map_eq_some_iff.1 hy
     obtain ⟨hlt, rfl⟩ := List.getElem?_eq_some_iff.1 hk
     rw [List.length_range] at hlt
     simp only [List.getElem_range] at hj ⊢
     rw [dif_pos (show i < m by omega)] at hj
     exact Classical.choose_spec (hrow i (by omega)) j v hj
   obtain ⟨y0, hy0⟩ := hrow 0 (by omega)
   have hq := hy0 0 _ rfl
   have hblk := block_lt_of_cell hq
   obtain ⟨b, off, sp⟩ := a
   cases sp with
   | some x =>
     exfalso
     simp [World.cell?, Addr.add] at hq
     split at hq <;> simp_all
   | none =>
     refine ⟨b, off, rfl, ?_, fun i r j v hr hj => ?_⟩
     · rw [add_flat] at hblk
       exact hblk
     · have := hget i r hr j v hj
       rw [add_flat, ← Nat.add_assoc] at this
       exact this
end
theorem tab_laid {laid : List (String × DataW Unit)} {W : World} (hL : laidMet Tryz.prog laid W) (hf : laid.filter (fun x => x.1 == "internal/strconv.uint64pow10") = [("internal/strconv.uint64pow10", Lib.tabData .u64 Lib.pow10Tab)]) : Go.Proofs.YtendlmdmbkcdnaaGreatDoor.sg.Tab W := by
 have h := hL.filter (fun x => x.1 == "internal/strconv.uint64pow10")
 rw [hf] at h
 exact Lib.tabIs_of_head (g := 2) (t := 377) (e := 252) (n := 20) (by kernel_rfl) (by kernel_rfl) (by kernel_rfl) (by kernel_rfl) (by kernel_rfl) (by kernel_rfl) h
end Go.Proofs.YtendlmdmbkcdnaaGreatDoor.tp
