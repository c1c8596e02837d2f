/-
  Texts of the proof joined by a program: Ton Sgk Dkd Tpg.
-/
import Derived.Test.YtendlmdmbkcdnaaGreatDoorVp
import Derived.Test.YtendlmdmbkcdnaaGreatDoorVk
import Derived.Test.YtendlmdmbkcdnaaGreatDoorVl
set_option linter.unusedSimpArgs false
set_option linter.unusedVariables false
namespace Go.Proofs.YtendlmdmbkcdnaaGreatDoor.tp
open Go.RowKit Go.Maps Go.WideMaps oc rc gh dk sg ma hi kd dd
open Go.Lib (hid)
set_option maxRecDepth 100000
def CT (τ : Nat) : Tag -> Role -> Prop := fun t r => CD t \/ (t = .other /\ ∃ p, r = some (τ, p))
theorem ct_k {τ : Nat} : ∀ t r, CK t r -> CT τ t r := fun _ _ h => Or.inl h
theorem ct_r {τ : Nat} (p : Part) : ∀ t r, CR (some (τ, p)) t r -> CT τ t r := fun _ _ h => Or.inr ⟨h.1, p, h.2⟩
theorem ct_n {τ : Nat} : ∀ t r, CN t r -> CT τ t r := fun _ _ h => h.elim
theorem ct_s {τ : Nat} : ∀ t r, CKS τ t r -> CT τ t r := fun _ _ h => by
 rcases h with h | ⟨h1, h2 | h2 | h2⟩
 ·exact Or.inl h
 ·exact Or.inr ⟨h1, _, h2⟩
 ·exact Or.inr ⟨h1, _, h2⟩
 ·exact Or.inr ⟨h1, _, h2⟩
def CX (τ : Nat) : Tag -> Role -> Prop := fun t r => CD t \/ (t = .other /\ (r = some (τ, .top) \/ r = some (τ, .cached)))
theorem cx_k {τ : Nat} : ∀ t r, CK t r -> CX τ t r := fun _ _ h => Or.inl h
theorem cx_r {τ : Nat} {p : Part} (hp : p = .top \/ p = .cached) : ∀ t r, CR (some (τ, p)) t r -> CX τ t r := fun _ _ h => Or.inr ⟨h.1, by rcases hp with rfl | rfl; exact Or.inl h.2; exact Or.inr h.2⟩
theorem cx_ct {τ : Nat} : ∀ t r, CX τ t r -> CT τ t r := fun _ _ h => by
 rcases h with h | ⟨h, e | e⟩
 ·exact Or.inl h
 ·exact Or.inr ⟨h, _, e⟩
 ·exact Or.inr ⟨h, _, e⟩
theorem cx_no {τ : Nat} {pp : Part} (h1 : pp ≠ .top) (h2 : pp ≠ .cached) : ¬ CX τ .other (some (τ, pp)) := by
 rintro (h | ⟨_, h | h⟩)
 ·exact h.1 rfl
 ·injection h with h; injection h with _ h; exact h1 h
 ·injection h with h; injection h with _ h; exact h2 h
theorem cx_none {τ : Nat} : ¬ CX τ .other none := by
 rintro (h | ⟨_, h | h⟩)
 ·exact h.1 rfl
 ·cases h
 ·cases h
theorem ct_none {τ : Nat} : ¬ CT τ .other none := by
 rintro (h | ⟨_, p, h⟩)
 ·exact ck_none h
 ·cases h
theorem cr_top {τ : Nat} {p : Part} (h : p ≠ .top) : ¬ CR (some (τ, .top)) .other (some (τ, p)) := by
 rintro ⟨_, e⟩
 injection e with e
 injection e with _ e
 exact h e
theorem cr_none {r : Nat × Part} : ¬ CR (some r) .other none := by
 rintro ⟨_, e⟩
 cases e
def TabR (w : World) (G : Gh) (τ : Nat) (p pm : Part) (t m n : Nat) (D : DataW Unit) : Prop := TabAt w t m n D /\ Is G t (some (τ, p)) /\ Is G m (some (τ, pm))
theorem TabR.keep {C : Tag -> Role -> Prop} {w w' : World} {G G' : Gh} {τ : Nat} {p pm : Part} {t m n : Nat} {D : DataW Unit} (h : TabR w G τ p pm t m n D) (hF : Fx C G G' w w') (h1 : ¬ C .other (some (τ, p))) (h2 : ¬ C .other (some (τ, pm))) : TabR w' G' τ p pm t m n D := by
 have k1 := (show BlkR w G t 212 #[.map (some m)] (some (τ, p)) from ⟨h.1.1, h.2.1⟩).keep hF h1
 have k2 := (show MapR w G 2 prodR m n D (some (τ, pm)) from ⟨h.1.2, h.2.2⟩).keep hF h2
 exact ⟨⟨k1.1, k2.1⟩, k1.2, k2.2⟩
theorem replace_is (w : World) (G : Gh) (d : Nat) (q : Int) (l y : List Fil) (no L : Nat) (a b : ByteArray) (bs : List UInt8) (A : Option Addr) (c : Nat) (hy : (l = y /\ ∀ z ∈ y, z.name ≠ a) \/ ∃ x : Fil, x.name = a /\ l.Perm (x :: y))
  (hab : a ++ ⟨#[46, 116, 109, 112]⟩ = b) (h : DK w G d q l no L) (hf : Fin G w) (hno : no + 5 <= 1099511627776) (hL : L + 8 <= 1073741824) (ha : GoodN a) (hb : GoodN b) (hnb : ∀ z ∈ l, z.name ≠ b) (hne : a ≠ b) (hl : l.length < 65536)
  (hbs : 0 < bs.length) (hR : RowR w G 5 1 (.slice A bs.length c) bs.length (bc bs) none) (hu : (sumF l + bs.length : Nat) <= q) :
  Calls Tryz.prog 205 #[.pointer (some ⟨d, 0, none⟩), .string a, .slice A bs.length c] w (RpOut w G d q no L a bs y) := by
 rcases hy with ⟨rfl, hn⟩ | ⟨x, hx, hp⟩
 ·exact replace_new w G d q l no L a b bs A c hab h hf hno hL ha hb hn hnb hne hl hbs hR hu
 ·exact replace_old w G d q y no L a b bs A c x hx hab (h.perm hp) hf hno hL hb (fun z hz => hnb z (hp.mem_iff.2 hz)) (by rw [<- hp.length_eq]; exact hl) hbs hR (by rw [<- sumF_perm hp]; exact hu)
theorem manN_pos (m : ManS) : 0 < (manN m).length := by simp [manN, wrapL]
structure ExtH (w : World) (G : Gh) (τ t : Nat) (c : Tc) (i ns en k lim : Nat) (q : Int) (l y : List Fil) (no L mt mn : Nat) (D : DataW Unit) (cn : Nat) (CD : DataW Unit) : Prop where
 top : BlkR w G t 110 c.cells (some (τ, .top))
 eid : c.id = (i : Int)
 elim : c.lim = (lim : Int)
 enext : c.next = (en : Int)
 eclock : c.clock = (k : Int)
 enseg : c.nextSeg = (ns : Int)
 i1 : i < 1073741824
 ns1 : ns < 1073741824
 en1 : en <= 1099511627776
 lim0 : 256 <= lim
 lim1 : lim <= 65536
 segs : IntsAt w c.sA c.man.segs
 cold : Cold w G c.sA
 segsl : c.man.segs.length <= 63
 tab : TabR w G τ .tab .tabm c.tc mt mn D
 tabok : TabOk D en
 cached : MapR w G 3 slR c.cached cn CD (some (τ, .cached))
 cnl : cn <= 1073741824
 dk : DK w G c.d q l no L
 fin : Fin G w
 tg : TabG w G
 no1 : no + 8 <= 1099511627776
 L1 : L + 10 <= 1073741824
 len : l.length + 1 < 65536
 nm : ∀ z ∈ l, z.name ≠ Sb (nameN i ns)
 ntmp : ∀ z ∈ l, z.name ≠ Sb (tmpN (manName i))
 man : (l = y /\ ∀ z ∈ y, z.name ≠ Sb (manName i)) \/ ∃ x : Fil, x.name = Sb (manName i) /\ l.Perm (x :: y)
 ok : ∀ ps, ProdsOk en ps -> ps.length <= 64 -> ManOk (nextMan i (ns + 1) en k c.man ns ps)
 room : ∀ ps, ProdsOk en ps -> ps.length <= 64 -> (sumF l + 21 + (manN (nextMan i (ns + 1) en k c.man ns ps)).length : Nat) <= q
def ExtOut (w : World) (G : Gh) (τ t : Nat) (c : Tc) (i ns en k lim : Nat) (q : Int) (y : List Fil) (no L cn : Nat) (CD : DataW Unit) (e : Ending) (w' : World) : Prop :=
 ∃ G' g A c1 B c2 ps f f2, e = .returned (.int .i64 0) /\ ProdsOk en ps /\ ps.length <= 64 /\
  BlkR w' G' t 110 (Tc.cells { c with man := nextMan i (ns + 1) en k c.man ns ps, sA := A, sc := c1, pA := B, pc := c2, seg := some ⟨g, 0, none⟩, nextSeg := ((ns + 1 : Nat) : Int) }) (some (τ, .top)) /\
  IntsAt w' A (c.man.segs ++ [ns]) /\ Cold w' G' A /\ PrsAt w' B ps /\ Cold w' G' B /\
  SegAt w' G' τ g c.d (seg0 lim (inf0 i ns en) (extN 0 (headN i ns en))) /\
  MapR w' G' 3 slR c.cached (cn + 1) (CD.put (.int .i64 (ns : Int)) .nil) (some (τ, .cached)) /\
  DK w' G' c.d q (⟨Sb (manName i), f2, fNew (manN (nextMan i (ns + 1) en k c.man ns ps))⟩ :: ⟨Sb (nameN i ns), f, fSync (fApp ⟨[], [], []⟩ (headN i ns en))⟩ :: y) (no + 8) (L + 6) /\
  Fx (CX τ) G G' w w' /\ Fin G' w'
abbrev PhX (t bn ns : Nat) (cs : Array Value) : World -> Prop := fun W => Blk W t 110 cs /\ Blk W bn 3 #[.int .i64 (ns : Int)]
set_option maxHeartbeats 8000000 in
theorem extend_any (w : World) (G : Gh) (τ t : Nat) (c : Tc) (i ns en k lim : Nat) (q : Int) (l y : List Fil) (no L mt mn : Nat) (D : DataW Unit) (cn : Nat) (CD : DataW Unit) (H : ExtH w G τ t c i ns en k lim q l y no L mt mn D cn CD) :
  Calls Tryz.prog 40 #[.pointer (some ⟨t, 0, none⟩)] w (ExtOut w G τ t c i ns en k lim q y no L cn CD) := by
 have HH := hid H
 have g1 : decide ((1073741824 : Int) <= (ns : Int)) = false := decide_eq_false (by have := H.ns1; omega)
 have e1 : IntKind.i64.wrap ((ns : Int) + 1) = ((ns + 1 : Nat) : Int) := by have := H.ns1; rw [IntKind.wrap_i64]; omega
 have c18 : w.cell? ⟨t, 18, none⟩ = some (.int .i64 (ns : Int)) := (H.top.cell 18).trans (by rw [<- H.enseg]; rfl)
 have KT : Hid (∀ W, Below w.heap.size w W -> ∀ (j : Nat) (v : Value), c.cells[j]? = some v -> W.cell? ⟨t, j, none⟩ = some v) := hid (fun W hb j v hj => ((H.top.1.below hb H.top.1.lt).cell j).trans hj)
 clear H
 go_enter Tryz.func40, Tryz.ntmps40
 go_wp2_with fail
 obtain ⟨w0, hw0⟩ : ∃ x, w.alloc (.cells #[.int .i64 (ns : Int)] 3) = x := ⟨_, rfl⟩
 have HB0 : Hid (Below w.heap.size w w0) := by rw [<- hw0]; exact hid ((Below.refl _ _).alloc (Nat.le_refl _) _)
 have HN0 : Hid (Blk w0 w.heap.size 3 #[.int .i64 (ns : Int)]) := by rw [<- hw0]; exact hid (Blk.new w _ _)
 simp only [hw0]
 clear hw0 c18
 refine wp_region_head 25 (PhX t w.heap.size ns c.cells) (by kernel_rfl) (by kernel_rfl) (fun w1 hh1 hb1 => ?_)
 have HB01 : Hid (Below w0.heap.size w0 w1) := hid hb1
 have HB1 : Hid (Below w.heap.size w w1) := hid (HB0.out.trans (HB01.out.mono HB0.out.size))
 have HN1 := hid (HN0.out.below HB01.out HN0.out.lt)
 have HP1 := hid (⟨HH.out.top.1.below HB1.out HH.out.top.1.lt, HN1.out⟩ : PhX t w.heap.size ns c.cells w1)
 have hne0 : Nonempty (Held (PhX t w.heap.size ns c.cells)) := ⟨⟨_, HP1.out⟩⟩
 have k0 : ∀ p : Held (PhX t w.heap.size ns c.cells), p.w.cell? ⟨t, 0, none⟩ = some (.pointer (some ⟨c.d, 0, none⟩)) := fun p => (p.h.1.cell 0).trans rfl
 have k1 : ∀ p : Held (PhX t w.heap.size ns c.cells), p.w.cell? ⟨t, 1, none⟩ = some (.int .i64 (i : Int)) := fun p => (p.h.1.cell 1).trans (by rw [<- HH.out.eid]; rfl)
 have k2 : ∀ p : Held (PhX t w.heap.size ns c.cells), p.w.cell? ⟨t, 2, none⟩ = some (.int .i64 (lim : Int)) := fun p => (p.h.1.cell 2).trans (by rw [<- HH.out.elim]; rfl)
 have k16 : ∀ p : Held (PhX t w.heap.size ns c.cells), p.w.cell? ⟨t, 16, none⟩ = some (.int .i64 (en : Int)) := fun p => (p.h.1.cell 16).trans (by rw [<- HH.out.enext]; rfl)
 have kn : ∀ p : Held (PhX t w.heap.size ns c.cells), p.w.cell? ⟨w.heap.size, 0, none⟩ = some (.int .i64 (ns : Int)) := fun p => (p.h.2.cell 0).trans rfl
 clear hh1 hb1 HN0
 refine headI_batch 0 20 (by kernel_rfl) (by kernel_rfl) HP1.out ?_
 simp only [List.take, List.drop]
 repeat (first | go_big_quiet_skip | (go_big_quiet_want; go_big_quiet_op; go_big_quiet_on))
 refine wpQuiet_nil ?_
 clear k0 k1 k2 k16 kn
 refine headI_loud 20 (by kernel_rfl) (by kernel_rfl) HP1.out ?_
 simp only [List.take, List.drop]
 go_wp2_with fail
 refine (create_any w1 G τ c.d lim i ns en q l no L (HH.out.tg.below HB1.out) HH.out.i1 HH.out.ns1 HH.out.en1 (by have := HH.out.lim0; omega) (by have := HH.out.lim1; omega) (HH.out.dk.below HB1.out) (HH.out.fin.more HB1.out.size) (by have := HH.out.no1; omega) (by have := HH.out.L1; omega) HH.out.nm (by have := HH.out.len; omega) (by have := HH.out.room [] ⟨fun _ _ _ h => by simp at h, fun _ h => by simp at h⟩ (by simp); omega)).mono ?_
 rintro e w2 ⟨g, f, G2, rfl, hg2, hf2, hs2, hk2, hx2, hfn2⟩
 have HX2 : Hid (Fx CK G G2 w w2) := hid ((Fx.below HB1.out).trans hx2)
 have HG2 : Hid (w1.heap.size <= g /\ w1.heap.size <= f) := hid ⟨hg2, hf2⟩
 have HS2 := hid hs2
 have HK2 := hid hk2
 have HF2 := hid hfn2
 have HT2 := hid (HH.out.top.keep HX2.out ck_other)
 have HN2 : Hid (BlkR w2 G2 w.heap.size 3 #[.int .i64 (ns : Int)] none) := hid ((show BlkR w1 G w.heap.size 3 #[.int .i64 (ns : Int)] none from ⟨HN1.out, HH.out.fin _ (Nat.le_refl _)⟩).keep hx2 ck_other)
 have HP2 := hid (⟨HT2.out.1, HN2.out.1⟩ : PhX t w.heap.size ns c.cells w2)
 clear hg2 hf2 hs2 hk2 hx2 hfn2 HN1
 go_wp2_with fail
 refine ⟨rfl, ?_⟩
 refine headI_batch 21 4 (by kernel_rfl) (by kernel_rfl) HP2.out ?_
 simp only [List.take, List.drop]
 repeat (first | go_big_quiet_skip | (go_big_quiet_want; go_big_quiet_op; go_big_quiet_on))
 refine wpQuiet_nil ?_
 refine headI_end (by kernel_rfl) HP2.out ?_
 simp only [List.take, List.drop]
 have c18 : w2.cell? ⟨t, 18, none⟩ = some (.int .i64 (ns : Int)) := (HT2.out.cell 18).trans (by rw [<- HH.out.enseg]; rfl)
 clear hne0
 go_wp2_with (first
  | ((with_reducible refine at_op ⟨none, .store 3 (.tmp 45) (.tmp 43), _, _, _, _⟩ ?_); refine wpList_store_one rfl 3 (.tmp 45) (.tmp 43) rfl t 18 rfl (.int .i64 ((ns + 1 : Nat) : Int)) rfl rfl rfl 110 _ HT2.out.1 (by simp [Tc.cells]) (by kernel_rfl) ?_; intro w3 hT3 hg3 hz3; have HX3 : Hid (Fx (CR (some (τ, .top))) G2 G2 w2 w3) := hid (Fx.grown hg3 HT2.out.2); have HT3 : Hid (BlkR w3 G2 t 110 (Tc.cells { c with nextSeg := ((ns + 1 : Nat) : Int) }) (some (τ, .top))) := hid ⟨hT3, HT2.out.2⟩; have HZ3 := hid hz3; clear hT3 hg3 hz3 c18)
  | fail)
 have HF3 : Hid (Fin G2 w3) := hid (HF2.out.more HX3.out.size)
 have HN3 := hid (HN2.out.keep HX3.out cr_none)
 have HS3 := hid (HS2.out.keep HX3.out (cr_top (by simp)) (cr_top (by simp)) (cr_top (by simp)))
 have HK3 := hid (HK2.out.keep HX3.out (fun t r h => h.1) HF2.out.ow)
 have HX03 : Hid (Fx (CX τ) G G2 w w3) := hid ((HX2.out.mono cx_k).trans (HX3.out.mono (cx_r (by simp))))
 have HTB3 := hid ((HH.out.tab.keep HX2.out ck_other ck_other).keep HX3.out (cr_top (by simp)) (cr_top (by simp)))
 have HTG3 : Hid (TabG w3 G2) := hid (HH.out.tg.keep HX03.out cx_none)
 have HC3 := hid ((HH.out.cached.keep HX2.out ck_other).keep HX3.out (cr_top (by simp)))
 have HI3 : Hid (IntsAt w3 c.sA c.man.segs) := hid (ints_keep HH.out.segs HH.out.cold HX03.out cx_none)
 refine (save_ext w3 G2 τ t { c with nextSeg := ((ns + 1 : Nat) : Int) } HT3.out.1 HT3.out.2 HF3.out w.heap.size ns i (ns + 1) en k HN3.out.1 HH.out.eid HH.out.enext HH.out.eclock rfl HI3.out HH.out.segsl mt mn D HTB3.out.1 HH.out.tabok HH.out.ok (okn HH.out.i1) HTG3.out.1
  (fun ps v G' w' => v = 0 /\ ∃ f2, DK w' G' c.d q (⟨Sb (manName i), f2, fNew (manN (nextMan i (ns + 1) en k c.man ns ps))⟩ :: ⟨Sb (nameN i ns), f, fSync (fApp ⟨[], [], []⟩ (headN i ns en))⟩ :: y) (no + 8) (L + 6)) (fun ps W A c' hps hpl hb ho => ?_)).mono ?_
 ·have hrep := replace_is W G2 c.d q (⟨Sb (nameN i ns), f, fSync (fApp ⟨[], [], []⟩ (headN i ns en))⟩ :: l) (⟨Sb (nameN i ns), f, fSync (fApp ⟨[], [], []⟩ (headN i ns en))⟩ :: y) (no + 3) (L + 2) (Sb (manName i)) (Sb (tmpN (manName i))) (manN (nextMan i (ns + 1) en k c.man ns ps)) A c'
   (by
    have hn : Sb (nameN i ns) ≠ Sb (manName i) := fun e => seg_man (okn HH.out.ns1) (by rw [nameN_f, man_f] at e; exact (sbf_inj (okn HH.out.i1) (okn HH.out.i1) e).2)
    rcases HH.out.man with ⟨rfl, hm⟩ | ⟨x, hx, hp⟩
    ·exact Or.inl ⟨rfl, fun z hz => by rcases List.mem_cons.1 hz with rfl | hz; exact hn; exact hm z hz⟩
    ·exact Or.inr ⟨x, hx, (hp.cons _).trans (List.Perm.swap _ _ _)⟩)
   (sb_app _ _).symm (HK3.out.below hb) (HF3.out.more hb.size) (by have := HH.out.no1; omega) (by have := HH.out.L1; omega) (good_man (okn HH.out.i1)) (good_mantmp (okn HH.out.i1))
   (fun z hz => by
    rcases List.mem_cons.1 hz with rfl | hz
    ·intro e
     rw [nameN_f, tmp_f] at e
     exact seg_tmp (okn HH.out.ns1) (sbf_inj (okn HH.out.i1) (okn HH.out.i1) e).2
    ·exact HH.out.ntmp z hz)
   (fun e => by
    rw [tmp_f, man_f] at e
    exact man_tmp (sbf_inj (okn HH.out.i1) (okn HH.out.i1) e).2)
   (by have := HH.out.len; simp; omega) (manN_pos _) ⟨own_less ho (Nat.zero_le _), fun b hb => HF3.out b (ho.lt b hb).1⟩ (by have := HH.out.room ps hps hpl; simp only [sumF, List.map_cons, List.sum_cons, fSync, fApp, List.nil_append, headN_len] at this ⊢; omega)
  refine hrep.mono ?_
  rintro e w' ⟨f2, hf2, G', rfl, hk, hx, hfn, _⟩
  exact ⟨0, G', Or.inl rfl, rfl, ⟨rfl, f2, hk⟩, hx, hfn⟩
 rintro e w5 ⟨v, G', w4, ps, rfl, hps, hpl, ⟨rfl, f2, hk4⟩, hfn4, hx4, _, h0⟩
 obtain ⟨A, c1, B, c2, hb5, hi5, hci5, hp5, hcp5, hx5, hz5⟩ := h0 rfl
 have HPS := hid hps
 have HPL := hid hpl
 have HK4 := hid hk4
 have HFN4 := hid hfn4
 have HX4 := hid hx4
 have HI5 := hid hi5
 have HCI5 := hid hci5
 have HP5 := hid hp5
 have HCP5 := hid hcp5
 have HX5 := hid hx5
 have HT5 : Hid (BlkR w5 G' t 110 _ (some (τ, .top))) := hid ⟨hb5, (HT3.out.2.keep hx4 HT3.out.1.lt).keep hx5 (Nat.lt_of_lt_of_le HT3.out.1.lt hx4.size)⟩
 have HF5 : Hid (Fin G' w5) := hid (hfn4.more hx5.size)
 clear hps hpl hk4 hfn4 hx4 hb5 hi5 hci5 hp5 hcp5 hx5 h0
 go_wp2_with (first
  | ((with_reducible refine at_op ⟨none, .store 103 (.tmp 68) (.tmp 66), _, _, _, _⟩ ?_); refine wpList_store_one rfl 103 (.tmp 68) (.tmp 66) rfl t 11 rfl (.pointer (some ⟨g, 0, none⟩)) rfl rfl rfl 110 _ HT5.out.1 (by simp [Tc.cells]) (by kernel_rfl) ?_; intro w6 hT6 hg6 _; have HX6 : Hid (Fx (CR (some (τ, .top))) G' G' w5 w6) := hid (Fx.grown hg6 HT5.out.2); have HT6 : Hid (BlkR w6 G' t 110 (Tc.cells { c with man := nextMan i (ns + 1) en k c.man ns ps, sA := A, sc := c1, pA := B, pc := c2, seg := some ⟨g, 0, none⟩, nextSeg := ((ns + 1 : Nat) : Int) }) (some (τ, .top))) := hid ⟨hT6, HT5.out.2⟩; clear hT6 hg6)
  | fail)
 simp only [Act.put]
 have HX46 : Hid (Fx (CR (some (τ, .top))) G' G' w4 w6) := hid (HX5.out.trans HX6.out)
 have HS6 : Hid (SegAt w6 G' τ g c.d (seg0 lim (inf0 i ns en) (extN 0 (headN i ns en)))) := hid ((HS3.out.ck HX4.out).keep HX46.out (cr_top (by simp)) (cr_top (by simp)) (cr_top (by simp)))
 have HC6 := hid ((HC3.out.keep HX4.out ck_other).keep HX46.out (cr_top (by simp)))
 have HN6 : Hid (BlkR w6 G' w.heap.size 3 #[.int .i64 (ns : Int)] none) := hid ((HN3.out.keep HX4.out ck_other).keep HX46.out cr_none)
 have HK6 := hid (HK4.out.keep HX46.out (fun t r h => h.1) HFN4.out.ow)
 have HX06 : Hid (Fx (CX τ) G G' w w6) := hid ((HX03.out.trans (HX4.out.mono cx_k)).trans (HX46.out.mono (cx_r (by simp))))
 have k20 := fun d' os => cell_regrown (show w6.cell? ⟨t, 20, none⟩ = some (.map (some c.cached)) from (HT6.out.cell 20).trans rfl) d' os
 have kn := fun d' os => cell_regrown (show w6.cell? ⟨w.heap.size, 0, none⟩ = some (.int .i64 (ns : Int)) from (HN6.out.cell 0).trans rfl) d' os
 refine wp_quiet_tail 5 (by kernel_rfl) (by kernel_rfl) (by kernel_rfl) ?_
 simp only [List.take, List.drop]
 repeat (first | go_big_quiet_skip | (go_big_quiet_want; go_big_quiet_op; go_big_quiet_on))
 refine wpQuiet_nil ?_
 intro w7 hw'
 obtain ⟨⟨dq7, osq7⟩, hw''⟩ := hw'
 have HB67 : Hid (Below w6.heap.size w6 w7) := by rw [hw'']; exact hid (below_regrown w6 dq7 osq7)
 have HC7 := hid (HC6.out.keep (C := CN) (Fx.below HB67.out) (fun h => h))
 have hkI := Go.Proofs.YtendlmdmbkcdnaaGreatDoor.gh.keyI (ns : Int) (by omega) (by have := HH.out.ns1; omega)
 clear hw'' k20 kn
 go_wp2_with (first
  | (at_mapUpdate; go_must (refine wpList_mapUpdate_own _ rfl _ _ _ 108 rfl 3 80 lawN Tryz.underlying108 slR c.cached cn _ rfl HC7.out.1 (by have := HH.out.cnl; unfold maxLen; omega) _ _ _ rfl rfl hkI .nil [] rfl ?_; intro w8 hown8 hgrow8; have HO8 := hid hown8; have HG8 : Hid (Fx (CR (some (τ, .cached))) G' G' w7 w8) := hid (Fx.grown hgrow8 HC7.out.2); clear hown8 hgrow8))
  | fail)
 go_ret
 have HX68 : Fx (CR (some (τ, .cached))) G' G' w6 w8 := (Fx.below HB67.out).trans HG8.out
 have nc : ∀ {p : Part}, p ≠ .cached -> ¬ CR (some (τ, .cached)) .other (some (τ, p)) := fun h => by
  rintro ⟨_, e⟩
  injection e with e
  injection e with _ e
  exact h e
 refine ⟨G', g, A, c1, B, c2, ps, f, f2, rfl, HPS.out, HPL.out, HT6.out.keep HX68 (nc (by simp)), ?_, ?_, ?_, ?_, HS6.out.keep HX68 (nc (by simp)) (nc (by simp)) (nc (by simp)), ⟨HO8.out, HC7.out.2⟩, HK6.out.keep HX68 (fun t r h => h.1) (HF5.out.more HX6.out.size).ow, HX06.out.trans (HX68.mono (cx_r (by simp))), (HF5.out.more HX6.out.size).more HX68.size⟩
 ·exact ints_keep (ints_keep HI5.out HCI5.out HX6.out cr_none) (HCI5.out.keep HX6.out) HX68 cr_none
 ·exact (HCI5.out.keep HX6.out).keep HX68
 ·exact prs_keep (prs_keep HP5.out HCP5.out HX6.out cr_none) (HCP5.out.keep HX6.out) HX68 cr_none
 ·exact (HCP5.out.keep HX6.out).keep HX68
end Go.Proofs.YtendlmdmbkcdnaaGreatDoor.tp
namespace Go.Proofs.YtendlmdmbkcdnaaGreatDoor.sg
open Go.RowKit Go.Maps Go.WideMaps oc rc gh dk
open Go.Lib (hid)
set_option maxRecDepth 100000
set_option maxHeartbeats 4000000 in
theorem create_full (w : World) (G : Gh) (τ d : Nat) (limit : Int) (topic seg base : Nat) (q : Int) (l : List Fil) (no L : Nat) (ht : TabG w G) (h1 : topic < 1073741824) (h2 : seg < 1073741824) (hb : base <= 1099511627776) (hl0 : 256 <= limit) (hl1 : limit <= 65536)
  (hk : DK w G d q l no L) (hf : Fin G w) (hno : no + 2 <= 1099511627776) (hL : L + 4 <= 1073741824) (hs : ∀ y ∈ l, y.name ≠ Sb (nameN topic seg)) (hl : l.length < 65536) (hu : q < (sumF l + 21 : Nat)) :
  Calls Tryz.prog 95 #[.pointer (some ⟨d, 0, none⟩), .int .i64 (topic : Int), .int .i64 (seg : Int), .int .i64 (base : Int), .int .i64 limit] w (DkOut w G d q l (no + 2) (L + 4) (.tuple #[.pointer none, .int .i64 33])) := by
 have o1 : okNum (topic : Int) = true := by simp [okNum]; omega
 have o2 : okNum (seg : Int) = true := by simp [okNum]; omega
 have HRF := hid (fun W => refused_ok W d topic seg limit o1 o2 hl0 hl1)
 have HNM := hid (fun W hT => name_is W topic seg o1 o2 hT _ rfl)
 have HGN := hid (good_name o1 o2)
 have HHD := hid (fun W => head_any W topic seg base (by omega) (by omega) (by omega))
 have HHL := hid (headN_len topic seg base)
 obtain ⟨nm, hnm⟩ : ∃ s, Sb (nameN topic seg) = s := ⟨_, rfl⟩
 obtain ⟨hd, hhd⟩ : ∃ s, headN topic seg base = s := ⟨_, rfl⟩
 have HEQ := hid hhd
 have HEN := hid hnm
 rw [hnm] at HNM HGN hs
 rw [hhd] at HHD HHL
 have g1 : decide ((base : Int) < 0) = false := decide_eq_false (by omega)
 have g2 : decide ((1099511627776 : Int) < (base : Int)) = false := decide_eq_false (by omega)
 have e1 : IntKind.i64.wrap ((base : Int) - 1) = (base : Int) - 1 := by rw [IntKind.wrap_i64]; omega
 have HT := hid ht
 have HK := hid hk
 have HF := hid hf
 have HNO := hid hno
 have HLL := hid hL
 have HS := hid hs
 have HLN := hid hl
 have HU := hid hu
 clear ht h1 h2 hb hl0 hl1 hk hf hno hL hs hl hu o1 o2 hnm hhd
 go_enter Tryz.func95, Tryz.ntmps95
 go_wp2_with fail
 refine (HRF.out w).mono ?_
 rintro e w0 ⟨rfl, hw0⟩
 rw [hw0]
 clear hw0
 go_wp2_with fail
 refine (HNM.out w HT.out.1).mono ?_
 rintro e w1 ⟨rfl, hb1⟩
 have HB1 := hid hb1
 clear hb1
 go_wp2_with fail
 refine (dk_create w1 G d q l no L (HK.out.below HB1.out) (HF.out.more HB1.out.size) (by have := HNO.out; omega) (by have := HLL.out; omega) nm HGN.out HS.out HLN.out).mono ?_
 rintro e w2 ⟨f, hf2, G2, rfl, hk2, hx2, hfn2, hr2⟩
 have HF2 : Hid (w.heap.size <= f) := hid (Nat.le_trans HB1.out.size hf2)
 have HK2 := hid hk2
 have HX2 : Hid (Fx CK G G2 w w2) := hid ((Fx.below HB1.out).trans hx2)
 have HFN2 := hid hfn2
 have HRL2 := hid hr2
 clear hf2 hk2 hx2 hfn2 hr2
 go_wp2_with fail
 refine (HHD.out w2).mono ?_
 rintro e w3 ⟨A3, c3, rfl, o3, b3⟩
 have HO3 := hid (own_less o3 (Nat.zero_le _))
 have HR3 : Hid (RowR w3 G2 5 1 (.slice A3 hd.length c3) hd.length (bc hd) none) := hid ⟨own_less o3 (Nat.zero_le _), fun b hb => HFN2.out b (o3.lt b hb).1⟩
 have HB3 := hid b3
 clear o3 b3
 go_wp2_with fail
 refine (dk_full w3 G2 d q ⟨nm, f, ⟨[], [], []⟩⟩ l (no + 1) (L + 2) (HK2.out.below HB3.out) A3 c3 hd (by have := HHL.out; have := HU.out; simp only [sumF, List.map_cons, List.sum_cons, List.length_nil] at this ⊢; omega)).mono ?_
 rintro e w4 ⟨rfl, hb4⟩
 have HB4 := hid hb4
 clear hb4
 go_wp2_with fail
 refine (dk_remove w4 G2 d q ⟨nm, f, ⟨[], [], []⟩⟩ l (no + 1) (L + 2) ((HK2.out.below HB3.out).below HB4.out) ((HFN2.out.more HB3.out.size).more HB4.out.size) (by have := HNO.out; omega) (by have := HLL.out; omega)).mono ?_
 rintro e w5 ⟨G5, rfl, hk5, hx5, hfn5, hr5⟩
 have HK5 := hid hk5
 have HX5 : Hid (Fx CK G G5 w w5) := hid (((HX2.out.trans (Fx.below HB3.out)).trans (Fx.below HB4.out)).trans hx5)
 have HFN5 := hid hfn5
 have HR5 : Hid (G5.rl = G.rl) := hid (hr5.trans HRL2.out)
 clear hk5 hx5 hfn5 hr5
 go_wp2_with fail
 go_ret2
 exact ⟨G5, rfl, HK5.out, HX5.out, HFN5.out, HR5.out⟩
end Go.Proofs.YtendlmdmbkcdnaaGreatDoor.sg
namespace Go.Proofs.YtendlmdmbkcdnaaGreatDoor.dk
open Go.RowKit Go.Maps Go.WideMaps oc gh
open Go.Lib (hid)
set_option maxRecDepth 100000
def RetN (n : Int) (R : World -> Prop) (e : Ending) (w' : World) : Prop := e = .returned (.int .i64 n) /\ R w'
theorem clo3f (w : World) (z z4 z2 d n c : Nat) (A : Option Addr) (b : ByteArray) (R : World -> Prop) (c0 : w.cell? ⟨z, 0, none⟩ = some (.pointer (some ⟨d, 0, none⟩))) (c4 : w.cell? ⟨z4, 0, none⟩ = some (.string b)) (c2 : w.cell? ⟨z2, 0, none⟩ = some (.slice A n c)) (h : Calls Tryz.prog 107 #[.pointer (some ⟨d, 0, none⟩), .string b, .slice A n c] w (RetN 33 R)) :
  Calls Tryz.prog 246 #[.pointer (some ⟨z, 0, none⟩), .pointer (some ⟨z4, 0, none⟩), .pointer (some ⟨z2, 0, none⟩)] w (RetN 33 R) := by
 go_enter Tryz.func246, Tryz.ntmps246
 go_wp2_with fail
 refine h.mono ?_
 rintro e w1 ⟨rfl, hr⟩
 go_wp2_with fail
 go_ret
 exact ⟨rfl, hr⟩
theorem clo1f (w : World) (m z3 z z4 d : Nat) (b : ByteArray) (R : World -> Prop) (c1 : w.cell? ⟨m, 0, none⟩ = some (.bool true)) (c3 : w.cell? ⟨z3, 0, none⟩ = some (.int .i64 33)) (c0 : w.cell? ⟨z, 0, none⟩ = some (.pointer (some ⟨d, 0, none⟩))) (c4 : w.cell? ⟨z4, 0, none⟩ = some (.string b))
  (h : Calls Tryz.prog 79 #[.pointer (some ⟨d, 0, none⟩), .string b] w (RetN 0 R)) :
  CallsD Tryz.prog 244 #[.pointer (some ⟨m, 0, none⟩), .pointer (some ⟨z3, 0, none⟩), .pointer (some ⟨z, 0, none⟩), .pointer (some ⟨z4, 0, none⟩)] .returning w fun e u' w' => u' = .returning /\ (e = .returned (.tuple #[]) /\ R w') := by
 go_enter_d Tryz.func244, Tryz.ntmps244
 go_wp2_with fail
 refine h.mono ?_
 rintro e w1 ⟨rfl, hr⟩
 go_wp2_with fail
 go_end0
 exact ⟨rfl, hr⟩
def fiveF (z d : Nat) : Array Value := #[.func (.func 245) #[] #[.pointer (some ⟨z, 0, none⟩), .pointer (some ⟨z + 1 + 1 + 1 + 1, 0, none⟩)],
      .func (.func 246) #[] #[.pointer (some ⟨z, 0, none⟩), .pointer (some ⟨z + 1 + 1 + 1 + 1, 0, none⟩), .pointer (some ⟨z + 1 + 1, 0, none⟩)],
      .func (.func 247) #[] #[.pointer (some ⟨z, 0, none⟩), .pointer (some ⟨z + 1 + 1 + 1 + 1, 0, none⟩)],
      .func (.func 248) #[] #[.pointer (some ⟨z, 0, none⟩), .pointer (some ⟨z + 1 + 1 + 1 + 1, 0, none⟩), .pointer (some ⟨z + 1, 0, none⟩)],
      .func (.func 80) #[.pointer (some ⟨d, 0, none⟩)] #[]]
theorem ckn {r : Role} : ¬ CK .other r := fun h => h.1 rfl
structure RFc (W : World) (G : Gh) (d z m : Nat) (a b : ByteArray) (A : Option Addr) (n c : Nat) (er : Int) (fl : Bool) : Prop where
 b0 : BlkR W G z 23 #[.pointer (some ⟨d, 0, none⟩)] none
 b1 : BlkR W G (z + 1) 9 #[.string a] none
 b2 : BlkR W G (z + 1 + 1) 74 #[.slice A n c] none
 b3 : BlkR W G (z + 1 + 1 + 1) 24 #[.int .i64 er] none
 b4 : BlkR W G (z + 1 + 1 + 1 + 1) 9 #[.string b] none
 bm : BlkR W G m 4 #[.bool fl] none
 bf : BlkR W G (m + 1) 89 (fiveF z d) none
section
variable {w W W' : World} {G G' G2 : Gh} {d z m : Nat} {q : Int} {y y' : List Fil} {no L no' L' : Nat} {a b : ByteArray} {A : Option Addr} {n c : Nat} {er : Int} {fl : Bool}
theorem RFc.keep (h : RFc W G d z m a b A n c er fl) (hF : Fx CK G G' W W') : RFc W' G' d z m a b A n c er fl :=
 ⟨h.b0.keep hF ckn, h.b1.keep hF ckn, h.b2.keep hF ckn, h.b3.keep hF ckn, h.b4.keep hF ckn, h.bm.keep hF ckn, h.bf.keep hF ckn⟩
theorem blkr_far {g i : Nat} {t : TypeId} {cs : Array Value} {r : Role} (h : BlkR W G g t cs r) (hne : g ≠ i) (v : Value) : BlkR (W.setCell ⟨i, 0, none⟩ v) G g t cs r := ⟨h.1.far (by exact hne) v, h.2⟩
theorem RFc.flag (h : RFc W G d z m a b A n c er fl) (hm : z + 5 <= m) : RFc (W.setCell ⟨m, 0, none⟩ (.bool true)) G d z m a b A n c er true :=
 ⟨blkr_far h.b0 (by omega) _, blkr_far h.b1 (by omega) _, blkr_far h.b2 (by omega) _, blkr_far h.b3 (by omega) _, blkr_far h.b4 (by omega) _, h.bm.set 0 _, blkr_far h.bf (by omega) _⟩
theorem RFc.err (h : RFc W G d z m a b A n c er fl) (hm : z + 5 <= m) (e : Int) : RFc (W.setCell ⟨z + 1 + 1 + 1, 0, none⟩ (.int .i64 e)) G d z m a b A n c e fl :=
 ⟨blkr_far h.b0 (by omega) _, blkr_far h.b1 (by omega) _, blkr_far h.b2 (by omega) _, h.b3.set 0 _, blkr_far h.b4 (by omega) _, blkr_far h.bm (by omega) _, blkr_far h.bf (by omega) _⟩
def RF (w W : World) (G : Gh) (d z m : Nat) (q : Int) (y : List Fil) (no L : Nat) (a b : ByteArray) (A : Option Addr) (n c : Nat) (er : Int) (fl : Bool) : Prop :=
 ∃ G', DK W G' d q y no L /\ (Fx CK G G' w W /\ Fin G' W /\ G'.rl = G.rl) /\ RFc W G' d z m a b A n c er fl
theorem fx_own {i : Nat} {v : Value} (h : Fx CK G G' w W) (hi : w.heap.size <= i) (hf : Fin G' W) : Fx CK G G' w (W.setCell ⟨i, 0, none⟩ v) /\ Fin G' (W.setCell ⟨i, 0, none⟩ v) := by
 refine ⟨⟨h.os, h.tape, h.output, by rw [size_set]; exact h.size, fun j hj hC => ?_, h.ow, h.rl⟩, hf.more (by rw [size_set]; exact Nat.le_refl _)⟩
 rw [Below.heap_setCell _ _ _ _ (by show j ≠ i; omega)]
 exact h.keep j hj hC
theorem RF.flag (h : RF w W G d z m q y no L a b A n c er fl) (hm : z + 5 <= m) (hz : w.heap.size <= z) : RF w (W.setCell ⟨m, 0, none⟩ (.bool true)) G d z m q y no L a b A n c er true := by
 obtain ⟨G', h1, h2, h3⟩ := h
 have hh := fx_own (v := .bool true) h2.1 (show w.heap.size <= m by omega) h2.2.1
 exact ⟨G', h1.keep (C := CR none) (Fx.set 0 _ h3.bm.2) (fun _ _ x => x.1) h2.2.1.ow, ⟨hh.1, hh.2, h2.2.2⟩, h3.flag hm⟩
theorem RF.err (h : RF w W G d z m q y no L a b A n c er fl) (hm : z + 5 <= m) (hz : w.heap.size <= z) (e : Int) : RF w (W.setCell ⟨z + 1 + 1 + 1, 0, none⟩ (.int .i64 e)) G d z m q y no L a b A n c e fl := by
 obtain ⟨G', h1, h2, h3⟩ := h
 have hh := fx_own (v := .int .i64 e) h2.1 (show w.heap.size <= z + 1 + 1 + 1 by omega) h2.2.1
 exact ⟨G', h1.keep (C := CR none) (Fx.set 0 _ h3.b3.2) (fun _ _ x => x.1) h2.2.1.ow, ⟨hh.1, hh.2, h2.2.2⟩, h3.err hm e⟩
theorem RF.step {v : Value} {e : Ending} (h1 : Fx CK G G' w W /\ Fin G' W /\ G'.rl = G.rl) (h3 : RFc W G' d z m a b A n c er fl) (ho : DkOut W G' d q y' no' L' v e W') : e = .returned v /\ RF w W' G d z m q y' no' L' a b A n c er fl := by
 obtain ⟨G2, rfl, g1, g2, g3, g4⟩ := ho
 exact ⟨rfl, G2, g1, ⟨h1.1.trans g2, g3, g4.trans h1.2.2⟩, h3.keep g2⟩
theorem RF.below (h : RF w W G d z m q y no L a b A n c er fl) (hb : Below W.heap.size W W') : RF w W' G d z m q y no L a b A n c er fl := by
 obtain ⟨G', h1, h2, h3⟩ := h
 exact ⟨G', h1.below hb, ⟨h2.1.trans (Fx.below hb), h2.2.1.more hb.size, h2.2.2⟩, h3.keep (Fx.below hb)⟩
end
set_option maxHeartbeats 4000000 in
theorem replace_full (w : World) (G : Gh) (d : Nat) (q : Int) (l : List Fil) (no L : Nat) (a b : ByteArray) (bs : List UInt8) (A : Option Addr) (c : Nat) (hab : a ++ ⟨#[46, 116, 109, 112]⟩ = b) (h : DK w G d q l no L) (hf : Fin G w) (hno : no + 5 <= 1099511627776) (hL : L + 8 <= 1073741824) (ha : GoodN a) (hb : GoodN b) (hna : ∀ y ∈ l, y.name ≠ a) (hnb : ∀ y ∈ l, y.name ≠ b) (hl : l.length < 65536)
  (hu : q < (sumF l + bs.length : Nat)) :
  Calls Tryz.prog 205 #[.pointer (some ⟨d, 0, none⟩), .string a, .slice A bs.length c] w (DkOut w G d q l (no + 2) (L + 4) (.int .i64 33)) := by
 have haz : a.size <= 1000 := Nat.le_trans ha.2.1 (by decide)
 have hz : ¬ ((9223372036854775807 : Int) < (a.size : Int) + 4) := by omega
 have hz2 : ¬ (9223372036854775807 < a.size + 4) := by omega
 obtain ⟨W, hW, hbW, hWz, o0, o1, o2, o3, o4⟩ := caps5 w G.ow hf.ow 23 9 74 24 9 (.pointer (some ⟨d, 0, none⟩)) (.string a) (.slice A bs.length c) (.int .i64 0) (.string b)
 have HSA : Hid (∀ W, DK W G d q l no L -> Calls Tryz.prog 123 #[.pointer (some ⟨d, 0, none⟩), .string a] W fun e w' => e = .returned (.tuple #[.int .i64 0, .int .i64 31]) /\ Below W.heap.size W w') := hid (fun W hW => by
  obtain ⟨S, hD, hk⟩ := hW
  exact size_no W G.ow d S hD hk.dead a ha (hk.no_ a hna))
 have HSB : Hid (∀ W, DK W G d q l no L -> Calls Tryz.prog 123 #[.pointer (some ⟨d, 0, none⟩), .string b] W fun e w' => e = .returned (.tuple #[.int .i64 0, .int .i64 31]) /\ Below W.heap.size W w') := hid (fun W hW => by
  obtain ⟨S, hD, hk⟩ := hW
  exact size_no W G.ow d S hD hk.dead b hb (hk.no_ b hnb))
 have HO := hid (And.intro o0 (And.intro o1 (And.intro o2 (And.intro o3 o4))))
 have HBW := hid hbW
 have HW := hid hWz
 have HK := hid (h.below hbW)
 have HFN := hid hf
 have HGB := hid hb
 have HNB := hid hnb
 have HNO := hid hno
 have HLL := hid hL
 have HLE := hid hl
 have HU := hid hu
 generalize hwz : w.heap.size = z at *
 clear hbW hWz o0 o1 o2 o3 o4 h hf hno hL ha hb hna hnb hl hu haz
 go_enter_defers Tryz.func205, Tryz.ntmps205
 go_wp2_with fail
 rw [<- hW]
 clear hW hz hz2
 have c4 : W.cell? ⟨z + 1 + 1 + 1 + 1, 0, none⟩ = some (.string b) := HO.out.2.2.2.2.cell
 have c0 : W.cell? ⟨z, 0, none⟩ = some (.pointer (some ⟨d, 0, none⟩)) := HO.out.1.cell
 refine (HSA.out W HK.out).mono ?_
 rintro e W1 ⟨rfl, hb1⟩
 have HB1 := hid hb1
 have d4 : W1.cell? ⟨z + 1 + 1 + 1 + 1, 0, none⟩ = some (.string b) := (HO.out.2.2.2.2.below hb1).cell
 have d0 : W1.cell? ⟨z, 0, none⟩ = some (.pointer (some ⟨d, 0, none⟩)) := (HO.out.1.below hb1).cell
 clear c4 c0 hb1
 go_wp2_with fail
 refine (HSB.out W1 (HK.out.below HB1.out)).mono ?_
 rintro e W2 ⟨rfl, hb2⟩
 have HB2 : Hid (Below W.heap.size W W2) := hid (HB1.out.trans (hb2.mono HB1.out.size))
 clear d4 d0 hb2
 have e0 : ∀ o, (W2.alloc o).cell? ⟨z, 0, none⟩ = some (.pointer (some ⟨d, 0, none⟩)) := fun o => ((HO.out.1.below HB2.out).alloc o).cell
 go_wp2_with fail
 have HREP : Hid (RF w ((W2.alloc (.cells #[.bool false] 4)).alloc (.cells (fiveF z d) 89)) G d z W2.heap.size q l no L a b A bs.length c 0 false /\ z + 5 <= W2.heap.size) := hid (by
  have hle : z + 5 <= W2.heap.size := by have := HB2.out.size; have := HW.out; omega
  have hb4 : Below W2.heap.size W2 ((W2.alloc (.cells #[.bool false] 4)).alloc (.cells (fiveF z d) 89)) := ((Below.refl _ W2).alloc (Nat.le_refl _) _).alloc (by rw [World.size_alloc]; omega) _
  have hn : ∀ {g : Nat}, z <= g -> Is G g none := fun {g} hg => HFN.out g (by rw [hwz]; exact hg)
  refine ⟨⟨G, (HK.out.below HB2.out).below hb4, ⟨Fx.below ?_, HFN.out.more ?_, rfl⟩, ⟨⟨((HO.out.1.below HB2.out).below hb4).1, hn (by omega)⟩, ⟨((HO.out.2.1.below HB2.out).below hb4).1, hn (by omega)⟩, ⟨((HO.out.2.2.1.below HB2.out).below hb4).1, hn (by omega)⟩, ⟨((HO.out.2.2.2.1.below HB2.out).below hb4).1, hn (by omega)⟩, ⟨((HO.out.2.2.2.2.below HB2.out).below hb4).1, hn (by omega)⟩, ⟨(Blk.new W2 _ _).alloc _, hn (by omega)⟩, ⟨?_, hn (by omega)⟩⟩⟩, hle⟩
  ·rw [hwz]
   exact HBW.out.trans ((HB2.out.mono (by rw [HW.out]; omega)).trans (hb4.mono (by omega)))
  ·rw [hwz]
   have h1 := hb4.size
   omega
  ·have := Blk.new (W2.alloc (.cells #[.bool false] 4)) 89 (fiveF z d)
   rwa [World.size_alloc] at this)
 unfold fiveF at HREP
 clear e0 HO HK HBW HW HB1 HB2 HSA HSB
 generalize (W2.alloc (.cells #[.bool false] 4)).alloc _ = W3 at HREP ⊢
 generalize W2.heap.size = m at *
 have HZM : Hid (z + 5 <= m) := hid HREP.out.2
 go_loopw [63] (fun i wr => ∃ (k : Nat), i = .int .i64 (k : Int) /\ ((k = 0 /\ Hid (RF w wr G d z m q l no L a b A bs.length c 0 false)) \/ (k = 1 /\ Hid (∃ f, RF w wr G d z m q (⟨b, f, ⟨[], [], []⟩⟩ :: l) (no + 1) (L + 2) a b A bs.length c 0 true)))) (fun i _ => 5 - (intOf i).toNat)
 case atStart => exact ⟨0, rfl, Or.inl ⟨rfl, hid HREP.out.1⟩⟩
 case round =>
  obtain ⟨k, rfl, ⟨rfl, HR⟩ | ⟨rfl, HR⟩⟩ := hrel
  ·clear HREP
   obtain ⟨G', h1, h2, h3⟩ := HR.out
   have HS := hid (clo2 _ z (z + 1 + 1 + 1 + 1) d b (fun W' => ∃ f, RF w W' G d z m q (⟨b, f, ⟨[], [], []⟩⟩ :: l) (no + 1) (L + 2) a b A bs.length c 0 false) ((h3.b0.cell 0).trans rfl) ((h3.b4.cell 0).trans rfl) ((dk_create wr G' d q l no L h1 h2.2.1 (by have := HNO.out; omega) (by have := HLL.out; omega) b HGB.out HNB.out HLE.out).mono (by
    rintro e w' ⟨f, _, ho⟩
    obtain ⟨e1, e2⟩ := RF.step h2 h3 ho
    exact ⟨e1, f, e2⟩)))
   have hbf := h3.bf
   unfold fiveF at hbf
   have r0 := (hbf.cell 0).trans rfl
   clear hbf
   clear h1 h2 h3
   go_wp2_with fail
   refine HS.out.mono ?_
   rintro e w1 ⟨rfl, f, hr1⟩
   have HR1 := hid hr1
   obtain ⟨_, _, _, h4⟩ := hr1
   have em := (h4.bm.cell 0).trans rfl
   have fm := h4.bm.frozen 0
   clear h4 HS r0
   go_wp2_with fail
   go_roundw
   case rel => exact ⟨1, by go_num, Or.inr ⟨rfl, hid ⟨f, HR1.out.flag HZM.out (by rw [hwz]; exact Nat.le_refl _)⟩⟩⟩
   case measure => simp [intOf]
  ·clear HREP
   obtain ⟨f, hrf⟩ := HR.out
   have HRF := hid hrf
   obtain ⟨G', h1, h2, h3⟩ := hrf
   have HS := hid (clo3f wr z (z + 1 + 1 + 1 + 1) (z + 1 + 1) d bs.length c A b (fun W' => RF w W' G d z m q (⟨b, f, ⟨[], [], []⟩⟩ :: l) (no + 1) (L + 2) a b A bs.length c 0 true) ((h3.b0.cell 0).trans rfl) ((h3.b4.cell 0).trans rfl) ((h3.b2.cell 0).trans rfl) ((dk_full wr G' d q ⟨b, f, ⟨[], [], []⟩⟩ l (no + 1) (L + 2) h1 A c bs (by have := HU.out; simp only [sumF, List.map_cons, List.sum_cons, List.length_nil] at this ⊢; omega)).mono (by
    rintro e w' ⟨rfl, hb⟩
    exact ⟨rfl, HRF.out.below hb⟩)))
   have hbf := h3.bf
   unfold fiveF at hbf
   have r1 := (hbf.cell 1).trans rfl
   clear hbf
   clear h1 h2 h3
   go_wp2_with fail
   refine HS.out.mono ?_
   rintro e w1 ⟨rfl, hr1⟩
   have HR1 := hid hr1
   obtain ⟨_, _, _, h4⟩ := hr1
   have e3 := (h4.b3.cell 0).trans rfl
   have f3 := h4.b3.frozen 0
   clear h4 HS r1
   go_wp2_with fail
   obtain ⟨G2, g1, g2, g3⟩ := HR1.out.err HZM.out (by rw [hwz]; exact Nat.le_refl _) 33
   refine leaves_cons (f := 244) (args := #[.pointer (some ⟨m, 0, none⟩), .pointer (some ⟨z + 1 + 1 + 1, 0, none⟩), .pointer (some ⟨z, 0, none⟩), .pointer (some ⟨z + 1 + 1 + 1 + 1, 0, none⟩)]) (by simp) (by simp [go_sem]) ?_
   refine (clo1f _ m (z + 1 + 1 + 1) z (z + 1 + 1 + 1 + 1) d b (fun W' => RF w W' G d z m q l (no + 2) (L + 4) a b A bs.length c 33 true) ((g3.bm.cell 0).trans rfl) ((g3.b3.cell 0).trans rfl) ((g3.b0.cell 0).trans rfl) ((g3.b4.cell 0).trans rfl) ((dk_remove _ G2 d q ⟨b, f, ⟨[], [], []⟩⟩ l (no + 1) (L + 2) g1 g2.2.1 (by have := HNO.out; omega) (by have := HLL.out; omega)).mono (fun e w' ho => RF.step g2 g3 ho))).mono ?_
   rintro e u' wz ⟨rfl, rfl, G3, k1, k2, k3⟩
   exact ⟨_, results_rep _ _ (z + 1 + 1 + 1) 33 rfl k3.b3.1, G3, rfl, k1, k2.1, k2.2.1, k2.2.2⟩
end Go.Proofs.YtendlmdmbkcdnaaGreatDoor.dk
namespace Go.Proofs.YtendlmdmbkcdnaaGreatDoor.tp
open Go.RowKit Go.Maps Go.WideMaps oc rc gh dk sg ma dd hi
open Go.Lib (hid)
set_option maxRecDepth 100000
structure ExtF (w : World) (G : Gh) (τ t : Nat) (c : Tc) (i ns k lim : Nat) (q : Int) (l : List Fil) (no L mt mn : Nat) (D : DataW Unit) : Prop where
 top : BlkR w G t 110 c.cells (some (τ, .top))
 eid : c.id = (i : Int)
 elim : c.lim = (lim : Int)
 enext : c.next = ((0 : Nat) : Int)
 eclock : c.clock = (k : Int)
 enseg : c.nextSeg = (ns : Int)
 i1 : i < 1073741824
 ns1 : ns < 1073741824
 lim0 : 256 <= lim
 lim1 : lim <= 65536
 segs : IntsAt w c.sA c.man.segs
 cold : Cold w G c.sA
 segsl : c.man.segs.length <= 63
 tab : TabR w G τ .tab .tabm c.tc mt mn D
 tabok : TabOk D 0
 dk : DK w G c.d q l no L
 fin : Fin G w
 tg : TabG w G
 no1 : no + 10 <= 1099511627776
 L1 : L + 12 <= 1073741824
 len : l.length + 1 < 65536
 nm : ∀ z ∈ l, z.name ≠ Sb (nameN i ns)
 ntmp : ∀ z ∈ l, z.name ≠ Sb (tmpN (manName i))
 nman : ∀ z ∈ l, z.name ≠ Sb (manName i)
 ok : ManOk (nextMan i (ns + 1) 0 k c.man ns [])
theorem prods0 {ps : List PrS} (h : ProdsOk 0 ps) : ps = [] := by
 rcases ps with _ | ⟨p, ps⟩
 ·rfl
 ·have := (h.each p List.mem_cons_self).2.2.2.2
  omega
set_option maxHeartbeats 8000000 in
theorem extend_full (w : World) (G : Gh) (τ t : Nat) (c : Tc) (i ns k lim : Nat) (q : Int) (l : List Fil) (no L mt mn : Nat) (D : DataW Unit) (H : ExtF w G τ t c i ns k lim q l no L mt mn D) (HQ : q < (sumF l + 21 : Nat) \/ ((sumF l + 21 : Nat) <= q /\ q < (sumF l + 21 + (manN (nextMan i (ns + 1) 0 k c.man ns [])).length : Nat))) :
  Calls Tryz.prog 40 #[.pointer (some ⟨t, 0, none⟩)] w fun e w' => e = .returned (.int .i64 33) /\ ∃ G', Fx (CX τ) G G' w w' := by
 have HQQ := hid HQ
 clear HQ
 have HH := hid H
 have g1 : decide ((1073741824 : Int) <= (ns : Int)) = false := decide_eq_false (by have := H.ns1; omega)
 have e1 : IntKind.i64.wrap ((ns : Int) + 1) = ((ns + 1 : Nat) : Int) := by have := H.ns1; rw [IntKind.wrap_i64]; omega
 have c18 : w.cell? ⟨t, 18, none⟩ = some (.int .i64 (ns : Int)) := (H.top.cell 18).trans (by rw [<- H.enseg]; rfl)
 have KT : Hid (∀ W, Below w.heap.size w W -> ∀ (j : Nat) (v : Value), c.cells[j]? = some v -> W.cell? ⟨t, j, none⟩ = some v) := hid (fun W hb j v hj => ((H.top.1.below hb H.top.1.lt).cell j).trans hj)
 clear H
 go_enter Tryz.func40, Tryz.ntmps40
 go_wp2_with fail
 obtain ⟨w0, hw0⟩ : ∃ x, w.alloc (.cells #[.int .i64 (ns : Int)] 3) = x := ⟨_, rfl⟩
 have HB0 : Hid (Below w.heap.size w w0) := by rw [<- hw0]; exact hid ((Below.refl _ _).alloc (Nat.le_refl _) _)
 have HN0 : Hid (Blk w0 w.heap.size 3 #[.int .i64 (ns : Int)]) := by rw [<- hw0]; exact hid (Blk.new w _ _)
 simp only [hw0]
 clear hw0 c18
 refine wp_region_head 25 (PhX t w.heap.size ns c.cells) (by kernel_rfl) (by kernel_rfl) (fun w1 hh1 hb1 => ?_)
 have HB01 : Hid (Below w0.heap.size w0 w1) := hid hb1
 have HB1 : Hid (Below w.heap.size w w1) := hid (HB0.out.trans (HB01.out.mono HB0.out.size))
 have HN1 := hid (HN0.out.below HB01.out HN0.out.lt)
 have HP1 := hid (⟨HH.out.top.1.below HB1.out HH.out.top.1.lt, HN1.out⟩ : PhX t w.heap.size ns c.cells w1)
 have hne0 : Nonempty (Held (PhX t w.heap.size ns c.cells)) := ⟨⟨_, HP1.out⟩⟩
 have k0 : ∀ p : Held (PhX t w.heap.size ns c.cells), p.w.cell? ⟨t, 0, none⟩ = some (.pointer (some ⟨c.d, 0, none⟩)) := fun p => (p.h.1.cell 0).trans rfl
 have k1 : ∀ p : Held (PhX t w.heap.size ns c.cells), p.w.cell? ⟨t, 1, none⟩ = some (.int .i64 (i : Int)) := fun p => (p.h.1.cell 1).trans (by rw [<- HH.out.eid]; rfl)
 have k2 : ∀ p : Held (PhX t w.heap.size ns c.cells), p.w.cell? ⟨t, 2, none⟩ = some (.int .i64 (lim : Int)) := fun p => (p.h.1.cell 2).trans (by rw [<- HH.out.elim]; rfl)
 have k16 : ∀ p : Held (PhX t w.heap.size ns c.cells), p.w.cell? ⟨t, 16, none⟩ = some (.int .i64 ((0 : Nat) : Int)) := fun p => (p.h.1.cell 16).trans (by rw [<- HH.out.enext]; rfl)
 have kn : ∀ p : Held (PhX t w.heap.size ns c.cells), p.w.cell? ⟨w.heap.size, 0, none⟩ = some (.int .i64 (ns : Int)) := fun p => (p.h.2.cell 0).trans rfl
 clear hh1 hb1 HN0
 refine headI_batch 0 20 (by kernel_rfl) (by kernel_rfl) HP1.out ?_
 simp only [List.take, List.drop]
 repeat (first | go_big_quiet_skip | (go_big_quiet_want; go_big_quiet_op; go_big_quiet_on))
 refine wpQuiet_nil ?_
 clear k0 k1 k2 k16 kn
 refine headI_loud 20 (by kernel_rfl) (by kernel_rfl) HP1.out ?_
 simp only [List.take, List.drop]
 go_wp2_with fail
 rcases HQQ.out with hq | hq
 ·refine (create_full w1 G τ c.d lim i ns 0 q l no L (HH.out.tg.below HB1.out) HH.out.i1 HH.out.ns1 (Nat.zero_le _) (by have := HH.out.lim0; omega) (by have := HH.out.lim1; omega) (HH.out.dk.below HB1.out) (HH.out.fin.more HB1.out.size) (by have := HH.out.no1; omega) (by have := HH.out.L1; omega) HH.out.nm (by have := HH.out.len; omega) hq).mono ?_
  rintro e w2 ⟨G2, rfl, hk2, hx2, hfn2, _⟩
  have HX2 : Hid (Fx CK G G2 w w2) := hid ((Fx.below HB1.out).trans hx2)
  have HT2 := hid (HH.out.top.keep HX2.out ck_other)
  have HN2 : Hid (BlkR w2 G2 w.heap.size 3 #[.int .i64 (ns : Int)] none) := hid ((show BlkR w1 G w.heap.size 3 #[.int .i64 (ns : Int)] none from ⟨HN1.out, HH.out.fin _ (Nat.le_refl _)⟩).keep hx2 ck_other)
  have HP2 := hid (⟨HT2.out.1, HN2.out.1⟩ : PhX t w.heap.size ns c.cells w2)
  clear hk2 hx2 hfn2 HN1 hq
  go_wp2_with fail
  refine ⟨rfl, ?_⟩
  refine headI_batch 21 4 (by kernel_rfl) (by kernel_rfl) HP2.out ?_
  simp only [List.take, List.drop]
  repeat (first | go_big_quiet_skip | (go_big_quiet_want; go_big_quiet_op; go_big_quiet_on))
  refine wpQuiet_nil ?_
  refine headI_end (by kernel_rfl) HP2.out ?_
  simp only [List.take, List.drop]
  clear hne0
  go_wp2_with fail
  go_ret
  exact ⟨rfl, G2, HX2.out.mono cx_k⟩
 have HQB := hid hq
 clear hq
 refine (create_any w1 G τ c.d lim i ns 0 q l no L (HH.out.tg.below HB1.out) HH.out.i1 HH.out.ns1 (Nat.zero_le _) (by have := HH.out.lim0; omega) (by have := HH.out.lim1; omega) (HH.out.dk.below HB1.out) (HH.out.fin.more HB1.out.size) (by have := HH.out.no1; omega) (by have := HH.out.L1; omega) HH.out.nm (by have := HH.out.len; omega) HQB.out.1).mono ?_
 rintro e w2 ⟨g, f, G2, rfl, hg2, hf2, hs2, hk2, hx2, hfn2⟩
 have HX2 : Hid (Fx CK G G2 w w2) := hid ((Fx.below HB1.out).trans hx2)
 have HG2 : Hid (w1.heap.size <= g /\ w1.heap.size <= f) := hid ⟨hg2, hf2⟩
 have HS2 := hid hs2
 have HK2 := hid hk2
 have HF2 := hid hfn2
 have HT2 := hid (HH.out.top.keep HX2.out ck_other)
 have HN2 : Hid (BlkR w2 G2 w.heap.size 3 #[.int .i64 (ns : Int)] none) := hid ((show BlkR w1 G w.heap.size 3 #[.int .i64 (ns : Int)] none from ⟨HN1.out, HH.out.fin _ (Nat.le_refl _)⟩).keep hx2 ck_other)
 have HP2 := hid (⟨HT2.out.1, HN2.out.1⟩ : PhX t w.heap.size ns c.cells w2)
 clear hg2 hf2 hs2 hk2 hx2 hfn2 HN1
 go_wp2_with fail
 refine ⟨rfl, ?_⟩
 refine headI_batch 21 4 (by kernel_rfl) (by kernel_rfl) HP2.out ?_
 simp only [List.take, List.drop]
 repeat (first | go_big_quiet_skip | (go_big_quiet_want; go_big_quiet_op; go_big_quiet_on))
 refine wpQuiet_nil ?_
 refine headI_end (by kernel_rfl) HP2.out ?_
 simp only [List.take, List.drop]
 have c18 : w2.cell? ⟨t, 18, none⟩ = some (.int .i64 (ns : Int)) := (HT2.out.cell 18).trans (by rw [<- HH.out.enseg]; rfl)
 clear hne0
 go_wp2_with (first
  | ((with_reducible refine at_op ⟨none, .store 3 (.tmp 45) (.tmp 43), _, _, _, _⟩ ?_); refine wpList_store_one rfl 3 (.tmp 45) (.tmp 43) rfl t 18 rfl (.int .i64 ((ns + 1 : Nat) : Int)) rfl rfl rfl 110 _ HT2.out.1 (by simp [Tc.cells]) (by kernel_rfl) ?_; intro w3 hT3 hg3 hz3; have HX3 : Hid (Fx (CR (some (τ, .top))) G2 G2 w2 w3) := hid (Fx.grown hg3 HT2.out.2); have HT3 : Hid (BlkR w3 G2 t 110 (Tc.cells { c with nextSeg := ((ns + 1 : Nat) : Int) }) (some (τ, .top))) := hid ⟨hT3, HT2.out.2⟩; have HZ3 := hid hz3; clear hT3 hg3 hz3 c18)
  | fail)
 have HF3 : Hid (Fin G2 w3) := hid (HF2.out.more HX3.out.size)
 have HN3 := hid (HN2.out.keep HX3.out cr_none)
 have HS3 := hid (HS2.out.keep HX3.out (cr_top (by simp)) (cr_top (by simp)) (cr_top (by simp)))
 have HK3 := hid (HK2.out.keep HX3.out (fun t r h => h.1) HF2.out.ow)
 have HX03 : Hid (Fx (CX τ) G G2 w w3) := hid ((HX2.out.mono cx_k).trans (HX3.out.mono (cx_r (by simp))))
 have HTB3 := hid ((HH.out.tab.keep HX2.out ck_other ck_other).keep HX3.out (cr_top (by simp)) (cr_top (by simp)))
 have HTG3 : Hid (TabG w3 G2) := hid (HH.out.tg.keep HX03.out cx_none)
 have HI3 : Hid (IntsAt w3 c.sA c.man.segs) := hid (ints_keep HH.out.segs HH.out.cold HX03.out cx_none)
 refine (save_ext w3 G2 τ t { c with nextSeg := ((ns + 1 : Nat) : Int) } HT3.out.1 HT3.out.2 HF3.out w.heap.size ns i (ns + 1) 0 k HN3.out.1 HH.out.eid HH.out.enext HH.out.eclock rfl HI3.out HH.out.segsl mt mn D HTB3.out.1 HH.out.tabok (fun ps hps _ => by rw [prods0 hps]; exact HH.out.ok) (okn HH.out.i1) HTG3.out.1
  (fun ps v G' w' => v = 33 /\ DK w' G' c.d q (⟨Sb (nameN i ns), f, fSync (fApp ⟨[], [], []⟩ (headN i ns 0))⟩ :: l) (no + 5) (L + 6)) (fun ps W A c' hps hpl hb ho => ?_)).mono ?_
 ·have hps0 := prods0 hps
  subst hps0
  have hn : Sb (nameN i ns) ≠ Sb (manName i) := fun e => seg_man (okn HH.out.ns1) (by rw [nameN_f, man_f] at e; exact (sbf_inj (okn HH.out.i1) (okn HH.out.i1) e).2)
  refine (replace_full W G2 c.d q (⟨Sb (nameN i ns), f, fSync (fApp ⟨[], [], []⟩ (headN i ns 0))⟩ :: l) (no + 3) (L + 2) (Sb (manName i)) (Sb (tmpN (manName i))) (manN (nextMan i (ns + 1) 0 k c.man ns [])) A c' (sb_app _ _).symm (HK3.out.below hb) (HF3.out.more hb.size) (by have := HH.out.no1; omega) (by have := HH.out.L1; omega) (good_man (okn HH.out.i1)) (good_mantmp (okn HH.out.i1))
   (fun z hz => by rcases List.mem_cons.1 hz with rfl | hz; exact hn; exact HH.out.nman z hz)
   (fun z hz => by
    rcases List.mem_cons.1 hz with rfl | hz
    ·intro e
     rw [nameN_f, tmp_f] at e
     exact seg_tmp (okn HH.out.ns1) (sbf_inj (okn HH.out.i1) (okn HH.out.i1) e).2
    ·exact HH.out.ntmp z hz)
   (by have := HH.out.len; simp; omega) (by have := HQB.out.2; simp only [sumF, List.map_cons, List.sum_cons, fSync, fApp, List.nil_append, headN_len] at this ⊢; omega)).mono ?_
  rintro e w' ⟨G', rfl, hk, hx, hfn, _⟩
  exact ⟨33, G', Or.inr rfl, rfl, ⟨rfl, hk⟩, hx, hfn⟩
 rintro e w5 ⟨v, G', w4, ps, rfl, hps, hpl, ⟨rfl, hk4⟩, hfn4, hx4, h33, _⟩
 have hww := h33 (by decide)
 subst hww
 have HK4 := hid hk4
 have HFN4 := hid hfn4
 have HX4 : Hid (Fx CK G2 G' w3 w5) := hid hx4
 have HT4 := hid (HT3.out.keep hx4 ck_other)
 have HN4 := hid (HN3.out.keep hx4 ck_other)
 have HTG4 := hid (HTG3.out.keep hx4 ck_other)
 clear hps hpl hk4 hfn4 hx4 h33
 obtain ⟨cs, hcs⟩ : ∃ cs, Tc.cells { c with nextSeg := ((ns + 1 : Nat) : Int) } = cs := ⟨_, rfl⟩
 have HC0 : Hid (cs[0]? = some (.pointer (some ⟨c.d, 0, none⟩)) /\ cs[1]? = some (.int .i64 (i : Int))) := hid (by rw [<- hcs]; exact ⟨rfl, by rw [<- HH.out.eid]; rfl⟩)
 rw [hcs] at HT4
 clear hcs
 go_wp2_with fail
 refine wp_region_head 12 (PhX t w.heap.size ns cs) (by kernel_rfl) (by kernel_rfl) (fun w6 hh6 hb6 => ?_)
 have HB6 : Hid (Below w5.heap.size w5 w6) := hid hb6
 have HP6 := hid (⟨HT4.out.1.below hb6 HT4.out.1.lt, HN4.out.1.below hb6 HN4.out.1.lt⟩ : PhX t w.heap.size ns cs w6)
 have hne0 : Nonempty (Held (PhX t w.heap.size ns cs)) := ⟨⟨_, HP6.out⟩⟩
 have k0 : ∀ p : Held (PhX t w.heap.size ns cs), p.w.cell? ⟨t, 0, none⟩ = some (.pointer (some ⟨c.d, 0, none⟩)) := fun p => (p.h.1.cell 0).trans HC0.out.1
 have k1 : ∀ p : Held (PhX t w.heap.size ns cs), p.w.cell? ⟨t, 1, none⟩ = some (.int .i64 (i : Int)) := fun p => (p.h.1.cell 1).trans HC0.out.2
 have kn : ∀ p : Held (PhX t w.heap.size ns cs), p.w.cell? ⟨w.heap.size, 0, none⟩ = some (.int .i64 (ns : Int)) := fun p => (p.h.2.cell 0).trans rfl
 clear hh6 hb6
 refine headI_batch 0 11 (by kernel_rfl) (by kernel_rfl) HP6.out ?_
 simp only [List.take, List.drop]
 repeat (first | go_big_quiet_skip | (go_big_quiet_want; go_big_quiet_op; go_big_quiet_on))
 refine wpQuiet_nil ?_
 clear k0 k1 kn hne0
 refine headI_loud 11 (by kernel_rfl) (by kernel_rfl) HP6.out ?_
 simp only [List.take, List.drop]
 go_wp2_with fail
 refine (name_is w6 i ns (okn HH.out.i1) (okn HH.out.ns1) (HTG4.out.below HB6.out).1 _ rfl).mono ?_
 rintro e w7 ⟨rfl, hb7⟩
 have HB7 : Hid (Below w5.heap.size w5 w7) := hid (HB6.out.trans (hb7.mono HB6.out.size))
 have HP7 := hid (⟨HP6.out.1.below hb7 HP6.out.1.lt, HP6.out.2.below hb7 HP6.out.2.lt⟩ : PhX t w.heap.size ns cs w7)
 clear hb7
 go_wp2_with fail
 refine ⟨rfl, ?_⟩
 refine headI_end (by kernel_rfl) HP7.out ?_
 simp only [List.take, List.drop]
 go_wp2_with fail
 refine (dk_remove w7 G' c.d q ⟨Sb (nameN i ns), f, fSync (fApp ⟨[], [], []⟩ (headN i ns 0))⟩ l (no + 5) (L + 6) (HK4.out.below HB7.out) (HFN4.out.more HB7.out.size) (by have := HH.out.no1; omega) (by have := HH.out.L1; omega)).mono ?_
 rintro e w8 ⟨G8, rfl, _, hx8, _⟩
 have HX8 : Hid (Fx (CX τ) G G8 w w8) := hid (((HX03.out.trans (HX4.out.mono cx_k)).trans (Fx.below HB7.out)).trans (hx8.mono cx_k))
 clear hx8
 go_wp2_with fail
 go_ret
 exact ⟨rfl, G8, HX8.out⟩
end Go.Proofs.YtendlmdmbkcdnaaGreatDoor.tp
