/-
  Texts of the proof joined by a program: Paf Pag Pah Pai Paj Pak.
-/
import Derived.Test.YtendlmdmbkcdnaaGreatDoorWaj
import Derived.Test.YtendlmdmbkcdnaaGreatDoorVx
import Derived.Test.YtendlmdmbkcdnaaGreatDoorVz
set_option linter.unusedSimpArgs false
set_option linter.unusedVariables false
namespace Go.Proofs.YtendlmdmbkcdnaaGreatDoor.tp
open Go.RowKit Go.Maps Go.WideMaps oc rc gh dk sg ma hi kd dd
open Go.Lib (hid)
open Go.Proofs (encStr)
open ri (lnm)
set_option maxRecDepth 100000
theorem TopAt.other {C : Tag -> Role -> Prop} {w w' : World} {G G' : Gh} {τ t d : Nat} {X : TS} {q : Int} {fs fs' : List Fil} {no L no' L' : Nat} (h : TopAt w G τ t d X q fs no L) (hF : Fx C G G' w w') (hf : Fin G' w') (hk : DK w' G' d q fs' no' L') (h2 : ∀ pp, ¬ C .other (some (τ, pp))) (h3 : ¬ C .other none) : TopAt w' G' τ t d X q fs' no' L' := by
 obtain ⟨p, h⟩ := h
 exact ⟨p, { h with
  top := h.top.keep hF (h2 _)
  segs := ints_keep h.segs h.cold hF h3
  cold := h.cold.keep hF
  seg := h.seg.keep hF (h2 _) (h2 _) (h2 _)
  dir := h.dir.keep hF (h2 _) h3
  tab := h.tab.keep hF (h2 _) (h2 _)
  all := h.all.keep hF (h2 _) (h2 _)
  waits := h.waits.keep hF (h2 _)
  cached := h.cached.keep hF (h2 _)
  rows := fun s l hs => (h.rows s l hs).keep hF (h2 _)
  dk := hk
  fin := hf
  tg := h.tg.keep hF h3 }⟩
def MaxG (w : World) (G : Gh) : Prop := MaxLenAt w /\ Is G 3 none
theorem MaxG.keep {C : Tag -> Role -> Prop} {w w' : World} {G G' : Gh} (h : MaxG w G) (hF : Fx C G G' w w') (hC : ¬ C .other none) : MaxG w' G' := by
 obtain ⟨⟨m, hm⟩, hi⟩ := h
 have hlt := block_lt_of_cell hm
 exact ⟨⟨m, (World.cell?_of_block (hF.keep _ hlt (by show ¬ C (G.ow 3) (G.rl 3); rw [hi.1, hi.2]; exact hC))).trans hm⟩, hi.keep hF hlt⟩
theorem take_out : ∀ {l : List Fil} {x : Fil}, (l.map lnm).Nodup -> x ∈ l -> l.Perm (x :: l.filter fun f => decide (lnm f ≠ lnm x))
 | y :: l, x, hn, hx => by
  rw [List.map_cons, List.nodup_cons] at hn
  rcases List.mem_cons.1 hx with rfl | hx
  ·have e : (x :: l).filter (fun f => decide (lnm f ≠ lnm x)) = l := by
    rw [List.filter_cons_of_neg (by simp), List.filter_eq_self]
    intro f hf
    have : lnm f ≠ lnm x := fun e => hn.1 (e ▸ List.mem_map.2 ⟨f, hf, rfl⟩)
    simpa using this
   rw [e]
  ·have hne : lnm y ≠ lnm x := fun e => hn.1 (e ▸ List.mem_map.2 ⟨x, hx, rfl⟩)
   rw [List.filter_cons_of_pos (by simpa using hne)]
   exact ((take_out hn.2 hx).cons y).trans (List.Perm.swap x y _)
def restF (fs : List Fil) (ns : List (List UInt8)) : List Fil := fs.filter fun f => decide (lnm f ∉ ns)
theorem rest_next {fs : List Fil} {ns : List (List UInt8)} (hn : (fs.map lnm).Nodup) (hs : ns.Nodup) (hm : ∀ s ∈ ns, s ∈ fs.map lnm) {k : Nat} {s : List UInt8} (hk : ns[k]? = some s) : ∃ x, lnm x = s /\ (restF fs (ns.take k)).Perm (x :: restF fs (ns.take (k + 1))) := by
 obtain ⟨x, hx, rfl⟩ := List.mem_map.1 (hm s (List.mem_of_getElem? hk))
 have htk := take_succ_some hk
 have hni : lnm x ∉ ns.take k := by
  intro h
  have h2 : (ns.take (k + 1)).Nodup := hs.sublist (List.take_sublist _ _)
  rw [htk, List.nodup_append] at h2
  exact h2.2.2 _ h _ List.mem_cons_self rfl
 refine ⟨x, rfl, ?_⟩
 have h1 : x ∈ restF fs (ns.take k) := List.mem_filter.2 ⟨hx, by simpa using hni⟩
 have h2 : ((restF fs (ns.take k)).map lnm).Nodup := hn.sublist ((List.filter_sublist).map _)
 have e : (restF fs (ns.take k)).filter (fun f => decide (lnm f ≠ lnm x)) = restF fs (ns.take (k + 1)) := by
  unfold restF
  rw [List.filter_filter]
  congr 1
  funext f
  rw [htk]
  simp [not_or, and_comm]
 have := take_out h2 h1
 rwa [e] at this
theorem rest_end {fs : List Fil} {ns : List (List UInt8)} {T : List UInt8 -> Int} {id : Int} (hp : ns.Perm ((fs.map lnm).filter fun s => decide (T s = id))) : restF fs ns = fs.filter fun f => decide (T (lnm f) ≠ id) := by
 unfold restF
 apply List.filter_congr
 intro f hf
 have : lnm f ∈ ns ↔ T (lnm f) = id := by
  rw [hp.mem_iff, List.mem_filter]
  exact ⟨fun h => by simpa using h.2, fun h => ⟨List.mem_map.2 ⟨f, hf, rfl⟩, by simpa using h⟩⟩
 simp [this]
def DropOut (w : World) (G : Gh) (τ t d : Nat) (X : TS) (q : Int) (fs : List Fil) (no L : Nat) (T : List UInt8 -> Int) (e : Ending) (w' : World) : Prop :=
 e = .returned (.int .i64 0) /\ ∃ G' no' L', no' <= no + fs.length + 1 /\ L' <= L + 2 * fs.length /\ DK w' G' d q (fs.filter fun f => decide (T (lnm f) ≠ (X.i : Int))) no' L' /\ Fin G' w' /\ Fx (CT τ) G G' w w' /\ w'.cell? ⟨t, 21, none⟩ = some (.bool true)
set_option maxHeartbeats 8000000 in
theorem drop_any (w : World) (G : Gh) (τ t d : Nat) (X : TS) (q : Int) (fs : List Fil) (no L : Nat) (h : TopAt w G τ t d X q fs no L) (hm : MaxG w G) (hl : fs.length <= 65536) (T : List UInt8 -> Int) (hT : ∀ f ∈ fs, PName (lnm f) (T (lnm f))) (hno : no <= 549755813888) (hL : L <= 536870912) :
  Calls Tryz.prog 29 #[.pointer (some ⟨t, 0, none⟩)] w (DropOut w G τ t d X q fs no L T) := by
 have hnd : (fs.map lnm).Nodup := by
  have h1 := h.nd
  have e : fs.map lnm = (fs.map (·.name)).map fun s => s.data.toList := by rw [List.map_map]; rfl
  rw [e]
  exact List.Pairwise.map _ (fun a b hab e => hab (by cases a; cases b; simpa using Array.toList_inj.1 e)) h1
 obtain ⟨p, h⟩ := h
 have HND := hid hnd
 have HT := hid h
 have HM := hid hm
 have HL := hid hl
 have HTT := hid hT
 have HNO := hid (And.intro hno hL)
 have c21 : w.cell? ⟨t, 21, none⟩ = some (.bool false) := (h.top.1.cell 21).trans (by rw [Tc.cells, h.egone]; rfl)
 clear h hm hl hT hno hL hnd
 go_enter Tryz.func29, Tryz.ntmps29
 go_wp2_with (first
  | ((with_reducible refine at_op ⟨none, .store 4 (.tmp 18) (.const (.bool true)), _, _, _, _⟩ ?_); refine wpList_store_one rfl 4 (.tmp 18) (.const (.bool true)) rfl t 21 rfl (.bool true) rfl rfl rfl 110 _ HT.out.top.1 (by simp [Tc.cells]) (by kernel_rfl) ?_; intro w1 hT1 hg1 hz1; clear hz1; have HT1 : Hid (Blk w1 t 110 (Tc.cells { p.c with gone := true })) := hid hT1; have HX1 : Hid (Fx (CR (some (τ, .top))) G G w w1) := hid (Fx.grown hg1 HT.out.top.2); clear hT1 hg1 c21; have f0 : w1.cell? ⟨t, 0, none⟩ = some (.pointer (some ⟨d, 0, none⟩)) := (HT1.out.cell 0).trans (by rw [<- HT.out.ed]; rfl); have f1 : w1.cell? ⟨t, 1, none⟩ = some (.int .i64 (X.i : Int)) := (HT1.out.cell 1).trans (by rw [<- HT.out.eid]; rfl); have f2 : w1.cell? ⟨t, 2, none⟩ = some (.int .i64 (X.lim : Int)) := (HT1.out.cell 2).trans (by rw [<- HT.out.elim]; rfl); have f3 : w1.cell? ⟨t, 3, none⟩ = some (.int .i64 (X.ret : Int)) := (HT1.out.cell 3).trans (by rw [<- HT.out.eret]; rfl))
  | fail)
 have HK1 : Hid (DK w1 G d q fs no L) := hid (HT.out.dk.keep HX1.out (fun _ _ x => x.1) HT.out.fin.ow)
 have HF1 : Hid (Fin G w1) := hid (HT.out.fin.more HX1.out.size)
 refine (files_any w1 G d q fs no L HK1.out HL.out (HT.out.tg.keep HX1.out (by rintro ⟨_, h⟩; cases h)).1 (HM.out.keep HX1.out (by rintro ⟨_, h⟩; cases h)).1 T HTT.out X.i X.lim X.ret).mono ?_
 rintro e w2 ⟨A, c, ns, rfl, hp, ho, hb⟩
 have HNS : Hid (ns.Nodup /\ ∀ s ∈ ns, s ∈ fs.map lnm) := hid ⟨hp.nodup_iff.2 (HND.out.sublist List.filter_sublist), fun s hs => (List.mem_filter.1 (hp.mem_iff.1 hs)).1⟩
 have HNL : Hid (ns.length <= fs.length) := hid (by have h1 := hp.length_eq; have h2 := List.length_filter_le (fun s => decide (T s = (X.i : Int))) (fs.map lnm); rw [List.length_map] at h2; omega)
 have HRE : Hid (restF fs ns = fs.filter fun f => decide (T (lnm f) ≠ (X.i : Int))) := hid (rest_end hp)
 have HO2 := hid ho
 have HB2 := hid hb
 have HK2 : Hid (DK w2 G d q fs no L) := hid (HK1.out.below hb)
 have HF2 : Hid (Fin G w2) := hid (HF1.out.more hb.size)
 have HT2 : Hid (BlkR w2 G t 110 (Tc.cells { p.c with gone := true }) (some (τ, .top))) := hid ⟨HT1.out.below hb HT1.out.lt, HT.out.top.2⟩
 have HOW : Hid (∀ g, Value.ownBlock (.slice A ns.length c) = some g -> g < w2.heap.size /\ G.ow g = .other) := hid (fun g hg => ⟨(ho.lt g hg).2, (HF1.out g (ho.lt g hg).1).1⟩)
 clear hp ho hb f0 f1 f2 f3 HK1
 go_wp2_with fail
 go_loopw [32] (fun i wr => ∃ (k : Nat) (Gr : Gh), k <= ns.length /\ i = .int .i64 (k : Int) /\ Hid (Fx CK G Gr w2 wr) /\ Hid (Fin Gr wr) /\ Hid (DK wr Gr d q (restF fs (ns.take k)) (no + k) (L + 2 * k))) (fun i _ => ns.length - (intOf i).toNat)
 case atStart => exact ⟨0, G, Nat.zero_le _, rfl, hid (Fx.refl _ _ _), HF2, by rw [show restF fs (ns.take 0) = fs by simp [restF]]; exact HK2⟩
 case round =>
  obtain ⟨k, Gr, hk, rfl, HXk, HFk, HKk⟩ := hrel
  have HTk := hid (HT2.out.keep HXk.out ck_other)
  have c0 : wr.cell? ⟨t, 0, none⟩ = some (.pointer (some ⟨d, 0, none⟩)) := (HTk.out.1.cell 0).trans (by rw [<- HT.out.ed]; rfl)
  by_cases hlt : k < ns.length
  ·obtain ⟨s, hs⟩ : ∃ x, ns[k]? = some x := ⟨_, List.getElem?_eq_getElem hlt⟩
   have HOk := hid (own_keepH HO2.out (fun g hg => HXk.out.keep g (HOW.out g hg).1 (by rw [(HOW.out g hg).2]; exact ck_other)))
   obtain ⟨g, cap, hv, hgl, e0⟩ := own_cell HOk.out (j := k) (u := encStr s) (by simp [hs])
   simp only [Value.slice.injEq, true_and] at hv
   obtain ⟨rfl, rfl⟩ := hv
   obtain ⟨x, hx, hpx⟩ := rest_next HND.out HNS.out.1 HNS.out.2 hs
   have es : encStr s = .string x.name := by rw [<- hx]; rfl
   have HRM := hid (dk_remove wr Gr d q x (restF fs (ns.take (k + 1))) (no + k) (L + 2 * k) (HKk.out.perm hpx) HFk.out (by have := HNO.out; have := HNL.out; have := HL.out; omega) (by have := HNO.out; have := HNL.out; have := HL.out; omega))
   have i3 : IntKind.i64.wrap ((k : Int) + 1) = (k : Int) + 1 := by have := HNL.out; have := HL.out; rw [IntKind.wrap_i64]; omega
   rw [es] at e0
   clear es hx hpx hs
   go_wp2_with fail
   refine HRM.out.mono ?_
   rintro e w4 ⟨G4, rfl, hk4, hx4, hf4, -⟩
   have HX4 := hid (HXk.out.trans hx4)
   have HF4 := hid hf4
   have HK4 : Hid (DK w4 G4 d q (restF fs (ns.take (k + 1))) (no + (k + 1)) (L + 2 * (k + 1))) := hid (hk4.more (by omega) (by omega))
   clear hk4 hx4 hf4 e0 c0
   go_wp2_with fail
   go_roundw
   case rel => exact ⟨k + 1, G4, by omega, by go_num, HX4, HF4, HK4⟩
   case measure => simp [intOf]; omega
  ·obtain rfl : k = ns.length := by omega
   have HSD := hid (dk_syncdir wr Gr d q (restF fs (ns.take ns.length)) (no + ns.length) (L + 2 * ns.length) HKk.out HFk.out (by have := HNO.out; have := HNL.out; have := HL.out; omega) (by have := HNO.out; have := HNL.out; have := HL.out; omega))
   go_wp2_with fail
   refine HSD.out.mono ?_
   rintro e w4 ⟨G4, rfl, hk4, hx4, hf4, -⟩
   have HX4 := hid (HXk.out.trans hx4)
   have HF4 := hid hf4
   rw [List.take_length, HRE.out] at hk4
   have HK4 := hid hk4
   clear hk4 hx4 hf4 c0
   go_wp2_with fail
   go_ret
   exact ⟨rfl, G4, _, _, by have := HNL.out; omega, by have := HNL.out; omega, HK4.out, HF4.out, ((HX1.out.mono (ct_r _)).trans (Fx.below HB2.out)).trans (HX4.out.mono ct_k), ((HT2.out.keep HX4.out ck_other).1.cell 21).trans rfl⟩
end Go.Proofs.YtendlmdmbkcdnaaGreatDoor.tp
namespace Go.Proofs.YtendlmdmbkcdnaaGreatDoor.tp
open Go.RowKit Go.Maps Go.WideMaps oc rc gh dk sg ma hi kd dd
open Go.Lib (hid)
set_option maxRecDepth 100000
theorem commit_gone (w : World) (t : Nat) (c21 : w.cell? ⟨t, 21, none⟩ = some (.bool true)) :
  Calls Tryz.prog 30 #[.pointer (some ⟨t, 0, none⟩)] w fun e w' => e = .returned (.int .i64 105) /\ w' = w := by
 go_enter Tryz.func30, Tryz.ntmps30
 go_wp2_with fail
 go_ret
 exact ⟨rfl, rfl⟩
theorem dk_size_no (w : World) (G : Gh) (d : Nat) (q : Int) (fs : List Fil) (no L : Nat) (h : DK w G d q fs no L) (s : ByteArray) (hs : GoodN s) (hn : ∀ z ∈ fs, z.name ≠ s) :
  Calls Tryz.prog 123 #[.pointer (some ⟨d, 0, none⟩), .string s] w fun e w' => e = .returned (.tuple #[.int .i64 0, .int .i64 31]) /\ Below w.heap.size w w' := by
 obtain ⟨S, hD, hk⟩ := h
 exact size_no w G.ow d S hD hk.dead s hs (hk.no_ s hn)
theorem mwhole_no (w : World) (G : Gh) (d : Nat) (q : Int) (fs : List Fil) (no L : Nat) (h : DK w G d q fs no L) (s : ByteArray) (hs : GoodN s) (hn : ∀ z ∈ fs, z.name ≠ s) :
  Calls Tryz.prog 64 #[.pointer (some ⟨d, 0, none⟩), .string s] w fun e w' => e = .returned (.tuple #[.slice none 0 0, .int .i64 31]) /\ Below w.heap.size w w' := by
 have HSZ := hid (dk_size_no w G d q fs no L h s hs hn)
 clear h hs hn
 go_enter Tryz.func64, Tryz.ntmps64
 go_wp2_with fail
 refine HSZ.out.mono ?_
 rintro e w1 ⟨rfl, hb⟩
 go_wp2_with fail
 go_ret2
 exact ⟨rfl, hb⟩
set_option maxHeartbeats 4000000 in
theorem mload_no (w : World) (G : Gh) (d : Nat) (q : Int) (fs : List Fil) (no L i : Nat) (h : DK w G d q fs no L) (ht : Tab w) (hi : i < 1073741824) (hn : ∀ z ∈ fs, z.name ≠ Sb (manName i)) :
  Calls Tryz.prog 23 #[.pointer (some ⟨d, 0, none⟩), .int .i64 (i : Int)] w fun e w' => e = .returned (.tuple #[.agg #[.int .i64 0, .int .i64 0, .int .i64 0, .int .i64 0, .int .i64 0, .slice none 0 0, .slice none 0 0], .int .i64 31]) /\ Below w.heap.size w w' := by
 have hk : okNum (i : Int) = true := by simp [okNum]; omega
 have HNM := hid (fun W (hb : Below w.heap.size w W) => name_man W (i : Int) hk (tab_below ht hb))
 have HWH := hid (fun W (hb : Below w.heap.size w W) => mwhole_no W G d q fs no L (h.below hb) (Sb (manName i)) (good_man hk) hn)
 have g1 : decide ((0 : Int) <= (i : Int)) = true := decide_eq_true (by omega)
 have g2 : decide ((i : Int) < 1073741824) = true := decide_eq_true (by omega)
 clear h ht hi hn hk
 go_enter Tryz.func23, Tryz.ntmps23
 go_wp2_with (first
  | (go_at_call 63; go_in)
  | fail)
 obtain ⟨w1, hw1⟩ : ∃ y, w.alloc (.cells #[.int .i64 0, .int .i64 0, .int .i64 0, .int .i64 0, .int .i64 0, .slice none 0 0, .slice none 0 0] 67) = y := ⟨_, rfl⟩
 have HB1 : Hid (Below w.heap.size w w1) := by rw [<- hw1]; exact hid ((Below.refl _ _).alloc (Nat.le_refl _) _)
 have H1 : Hid (Blk w1 w.heap.size 67 #[.int .i64 0, .int .i64 0, .int .i64 0, .int .i64 0, .int .i64 0, .slice none 0 0, .slice none 0 0]) := by rw [<- hw1]; exact hid (Blk.new _ _ _)
 rw [hw1]
 clear hw1
 refine (HNM.out w1 HB1.out).mono ?_
 rintro e w2 ⟨rfl, hb2⟩
 have HB2 : Hid (Below w.heap.size w w2) := hid (HB1.out.trans (hb2.mono HB1.out.size))
 have H2 := hid (H1.out.below hb2 H1.out.lt)
 go_wp2_with fail
 refine (HWH.out w2 HB2.out).mono ?_
 rintro e w3 ⟨rfl, hb3⟩
 have HB3 : Hid (Below w.heap.size w w3) := hid (HB2.out.trans (hb3.mono HB2.out.size))
 have H3 := hid (H2.out.below hb3 H2.out.lt)
 clear hb2 hb3 g1 g2
 go_wp2_with (first
  | ((with_reducible refine at_op ⟨none, .store 67 (.tmp 4) (.tmp 26), _, _, _, _⟩ ?_); refine wpList_store_blk rfl 67 (.tmp 4) (.tmp 26) rfl w.heap.size 0 rfl [.int .i64 0, .int .i64 0, .int .i64 0, .int .i64 0, .int .i64 0, .slice none 0 0, .slice none 0 0] rfl (by simp [Value.oneCell']) 67 _ H3.out (by simp) (by kernel_rfl) ?_; intro w9 hT9 hg9 hs9; have HT9 : Hid (Blk w9 w.heap.size 67 #[.int .i64 0, .int .i64 0, .int .i64 0, .int .i64 0, .int .i64 0, .slice none 0 0, .slice none 0 0]) := hid hT9; have HG9 := hid hg9; clear hT9 hg9 hs9)
  | fail)
 refine bodyPost_ret (Go.Proofs.YtendlmdmbkcdnaaGreatDoor.kd.results_cell_tmp rfl _ _ w.heap.size 67 #[.int .i64 0, .int .i64 0, .int .i64 0, .int .i64 0, .int .i64 0, .slice none 0 0, .slice none 0 0] (0, 0) _ rfl HT9.out Tryz.underlying67 rfl (by kernel_rfl)) rfl ?_
 exact ⟨rfl, HB3.out.grown HG9.out HB3.out.size (fun j hj => by injection hj with hj; omega)⟩
abbrev PhLd (w0 : World) : World -> Prop := fun W => Below w0.heap.size w0 W
set_option maxHeartbeats 8000000 in
theorem tload_no (w : World) (G : Gh) (d t : Nat) (q : Int) (fs : List Fil) (no L i : Nat) (h : DK w G d q fs no L) (ht : Tab w) (hi : i < 1073741824) (hn : ∀ z ∈ fs, z.name ≠ Sb (manName i)) (c0 : w.cell? ⟨t, 0, none⟩ = some (.pointer (some ⟨d, 0, none⟩))) (c1 : w.cell? ⟨t, 1, none⟩ = some (.int .i64 (i : Int))) :
  Calls Tryz.prog 89 #[.pointer (some ⟨t, 0, none⟩)] w fun e w' => e = .returned (.int .i64 100) /\ Below w.heap.size w w' := by
 have HML := hid (fun W (hb : Below w.heap.size w W) => mload_no W G d q fs no L i (h.below hb) (tab_below ht hb) hi hn)
 have k0 : ∀ p : Held (PhLd w), p.w.cell? ⟨t, 0, none⟩ = some (.pointer (some ⟨d, 0, none⟩)) := fun p => (Below.cell p.h (block_lt_of_cell c0)).trans c0
 have k1 : ∀ p : Held (PhLd w), p.w.cell? ⟨t, 1, none⟩ = some (.int .i64 (i : Int)) := fun p => (Below.cell p.h (block_lt_of_cell c1)).trans c1
 clear h ht hi hn c0 c1
 go_enter Tryz.func89, Tryz.ntmps89
 go_wp2_with fail
 refine wp_region_head 16 (PhLd w) (by kernel_rfl) (by kernel_rfl) (fun w1 hh1 hb1 => ?_)
 have HP1 : Hid (Below w.heap.size w w1) := hid hb1
 have HS1 : Hid (w.heap.size <= w1.heap.size) := hid hb1.size
 have hne0 : Nonempty (Held (PhLd w)) := ⟨⟨_, HP1.out⟩⟩
 clear hh1 hb1
 refine headI_batch 0 10 (by kernel_rfl) (by kernel_rfl) HP1.out ?_
 simp only [List.take, List.drop]
 repeat (first | go_big_quiet_skip | (go_big_quiet_want; go_big_quiet_op; go_big_quiet_on))
 refine wpQuiet_nil ?_
 refine headI_loud2 10 14 (by kernel_rfl) (by kernel_rfl) HP1.out ?_ ?_
 ·simp only [List.take, List.drop]
  go_wp2_with fail
  refine (HML.out w1 HP1.out).mono ?_
  rintro e w2 ⟨rfl, hb2⟩
  have HP2 : Hid (Below w.heap.size w w2) := hid (HP1.out.trans (hb2.mono HP1.out.size))
  have HS2 : Hid (w1.heap.size <= w2.heap.size) := hid hb2.size
  clear hb2
  go_wp2_with fail
  refine ⟨rfl, ?_⟩
  refine headI_batch 11 3 (by kernel_rfl) (by kernel_rfl) HP2.out ?_
  simp only [List.take, List.drop]
  repeat (first | go_big_quiet_skip | (go_big_quiet_want; go_big_quiet_op; go_big_quiet_on))
  refine wpQuiet_nil ?_
  refine headI_loud 14 (by kernel_rfl) (by kernel_rfl) HP2.out ?_
  simp only [List.take, List.drop]
  go_wp2_with fail
  refine ⟨rfl, ?_⟩
  have HPA : Hid (Below w.heap.size w (w2.alloc (.cells #[.int .i64 0, .int .i64 0, .int .i64 0, .int .i64 0, .int .i64 0, .slice none 0 0, .slice none 0 0] 67))) := hid (HP2.out.alloc HP2.out.size _)
  refine headI_loud 15 (by kernel_rfl) (by kernel_rfl) HPA.out ?_
  simp only [List.take, List.drop]
  go_wp2_with (first
   | ((with_reducible refine at_op ⟨none, .store 67 (.tmp 3) (.tmp 23), _, _, _, _⟩ ?_); refine wpList_store_blk rfl 67 (.tmp 3) (.tmp 23) rfl (w2.heap.size) 0 rfl [.int .i64 0, .int .i64 0, .int .i64 0, .int .i64 0, .int .i64 0, .slice none 0 0, .slice none 0 0] rfl (by simp [Value.oneCell']) 67 _ (Blk.new w2 _ _) (by simp) (by kernel_rfl) ?_; intro w9 hT9 hg9 hs9; have HG9 := hid hg9; clear hT9 hg9 hs9)
   | fail)
  refine ⟨rfl, ?_⟩
  have HP9 : Hid (Below w.heap.size w w9) := hid (HPA.out.grown HG9.out (HPA.out.size) (fun j hj => by injection hj with hj; have := HP1.out.size; have := HS1.out; have := HS2.out; omega))
  refine headI_end (by kernel_rfl) HP9.out ?_
  simp only [List.take, List.drop]
  clear k0 k1
  go_wp2_with fail
  go_ret
  exact ⟨rfl, HP9.out⟩
 ·simp only [List.take, List.drop]
  go_wp2_with fail
  refine ⟨rfl, ?_⟩
  have HPA : Hid (Below w.heap.size w (w1.alloc (.cells #[.int .i64 0, .int .i64 0, .int .i64 0, .int .i64 0, .int .i64 0, .slice none 0 0, .slice none 0 0] 67))) := hid (HP1.out.alloc HP1.out.size _)
  refine headI_loud 10 (by kernel_rfl) (by kernel_rfl) HPA.out ?_
  simp only [List.take, List.drop]
  go_wp2_with fail
  refine (HML.out _ HPA.out).mono ?_
  rintro e w2 ⟨rfl, hb2⟩
  have HP2 : Hid (Below w.heap.size w w2) := hid (HPA.out.trans (hb2.mono HPA.out.size))
  have HN2 : Hid (Blk w2 w1.heap.size 67 #[.int .i64 0, .int .i64 0, .int .i64 0, .int .i64 0, .int .i64 0, .slice none 0 0, .slice none 0 0]) := hid ((Blk.new w1 _ _).below hb2 (Blk.new w1 _ _).lt)
  clear hb2
  go_wp2_with fail
  refine ⟨rfl, ?_⟩
  refine headI_batch 11 3 (by kernel_rfl) (by kernel_rfl) HP2.out ?_
  simp only [List.take, List.drop]
  repeat (first | go_big_quiet_skip | (go_big_quiet_want; go_big_quiet_op; go_big_quiet_on))
  refine wpQuiet_nil ?_
  refine headI_loud 15 (by kernel_rfl) (by kernel_rfl) HP2.out ?_
  simp only [List.take, List.drop]
  go_wp2_with (first
   | ((with_reducible refine at_op ⟨none, .store 67 (.tmp 3) (.tmp 23), _, _, _, _⟩ ?_); refine wpList_store_blk rfl 67 (.tmp 3) (.tmp 23) rfl (w1.heap.size) 0 rfl [.int .i64 0, .int .i64 0, .int .i64 0, .int .i64 0, .int .i64 0, .slice none 0 0, .slice none 0 0] rfl (by simp [Value.oneCell']) 67 _ HN2.out (by simp) (by kernel_rfl) ?_; intro w9 hT9 hg9 hs9; have HG9 := hid hg9; clear hT9 hg9 hs9)
   | fail)
  refine ⟨rfl, ?_⟩
  have HP9 : Hid (Below w.heap.size w w9) := hid (HP2.out.grown HG9.out (HP2.out.size) (fun j hj => by injection hj with hj; have := HP1.out.size; have := HS1.out; omega))
  refine headI_end (by kernel_rfl) HP9.out ?_
  simp only [List.take, List.drop]
  clear k0 k1
  go_wp2_with fail
  go_ret
  exact ⟨rfl, HP9.out⟩
set_option maxHeartbeats 8000000 in
theorem open_gone (w : World) (G : Gh) (τ d i lim ret k : Nat) (q : Int) (fs : List Fil) (no L : Nat) (hk : DK w G d q fs no L) (hf : Fin G w) (ht : TabG w G) (h1 : i < 1073741824) (h2 : 256 <= lim /\ lim <= 65536) (h3 : ret <= 1099511627776) (h4 : k < 1125899906842624) (hn : ∀ z ∈ fs, z.name ≠ Sb (manName i)) :
  Calls Tryz.prog 33 #[.pointer (some ⟨d, 0, none⟩), .int .i64 (i : Int), .int .i64 (lim : Int), .int .i64 (ret : Int), .int .i64 (k : Int)] w fun e w' => e = .returned (.tuple #[.pointer none, .int .i64 100]) /\ Below w.heap.size w w' := by
 have HFT := hid (fit_ok w d i lim ret k ⟨by omega, by omega⟩ ⟨by omega, by omega⟩ ⟨by omega, by omega⟩ ⟨by omega, by omega⟩)
 have HFR := hid (fresh_any w G τ d i lim ret k hf)
 have HK := hid hk
 have HF := hid hf
 have HT := hid ht
 have HI := hid h1
 have HN := hid hn
 clear hk hf ht h1 h2 h3 h4 hn
 unfold placeC at HFR
 go_enter Tryz.func33, Tryz.ntmps33
 go_wp2_with fail
 refine HFT.out.mono ?_
 rintro e w0 ⟨rfl, rfl⟩
 go_wp2_with fail
 refine HFR.out.mono ?_
 rintro e w1 ⟨t, dr, tb, tm, al, am, td, ch, G1, rfl, ht1, htop, -, -, -, -, hb1, hx1, hfn1, how1⟩
 have HTOP := hid htop.1
 have HB1 := hid hb1
 have HK1 : Hid (DK w1 G1 d q fs no L) := hid (HK.out.keep hx1 (fun _ _ h => h.elim) (fun j hj => by rw [how1]; exact HF.out.ow j hj))
 have HT1 : Hid (Tab w1) := hid (tab_below HT.out.1 hb1)
 clear HFT HFR ht1 htop hb1 hx1 hfn1 how1
 go_wp2_with fail
 have HLD : Hid (∀ y, Calls Tryz.prog 89 #[.pointer (some ⟨t, 0, none⟩)] (w1.alloc y) fun e w' => e = .returned (.int .i64 100) /\ Below w0.heap.size w0 w') := hid (fun y => by
  have hb : Below w1.heap.size w1 (w1.alloc y) := (Below.refl _ _).alloc (Nat.le_refl _) _
  have hT := HTOP.out.alloc y
  refine (tload_no (w1.alloc y) G1 d t q fs no L i (HK1.out.below hb) (tab_below HT1.out hb) HI.out HN.out ((hT.cell 0).trans rfl) ((hT.cell 1).trans rfl)).mono ?_
  rintro e w' ⟨rfl, h⟩
  exact ⟨rfl, (HB1.out.alloc HB1.out.size _).trans (h.mono (Nat.le_trans HB1.out.size (by simp)))⟩)
 clear HTOP HB1 HK1 HT1 HI HN HK HF HT
 go_loop [45] (fun x => x = .int .i64 0) (fun _ => 0)
 case atStart => rfl
 case round =>
  subst hrel
  go_wp2_with fail
  refine (HLD.out _).mono ?_
  rintro e w2 ⟨rfl, hb2⟩
  have HB2 := hid hb2
  clear hb2 HLD
  go_wp2_with fail
  go_ret2
  exact ⟨rfl, HB2.out⟩
end Go.Proofs.YtendlmdmbkcdnaaGreatDoor.tp
namespace Go.Proofs.YtendlmdmbkcdnaaGreatDoor.tp
open Go.RowKit Go.Maps Go.WideMaps oc rc gh dk sg ma hi kd dd
open ri (lnm)
set_option maxRecDepth 100000
structure LW2 (w : World) (d : Nat) (q : Int) (τ t β b i τ' t' β' b' i' : Nat) (wr : World) (G : Gh) (X Y : TS) (fs : List Fil) (no L firm firm' : Nat) : Prop where
 topA : TopAt wr G τ t d X q fs no L
 topB : TopAt wr G τ' t' d Y q fs no L
 bookA : BookAt wr G β b (X.all ++ X.wr) firm
 bookB : BookAt wr G β' b' (Y.all ++ Y.wr) firm'
 invA : Inv X fs
 invB : Inv Y fs
 firmA : firm = X.en
 firmB : firm' = Y.en
 ia : X.i = i
 ib : Y.i = i'
 each : ∀ z ∈ fs, OfN i z.name \/ OfN i' z.name
 no : no <= cost X + cost Y + 200
 L : L <= 8 * X.cur + 8 * Y.cur + 200
 len : fs.length <= 2 * X.cur + 2 * Y.cur + 200
 sum : sumF fs <= vol X + vol Y + 20000
 old : ∀ i, i < w.heap.size -> Is G i none
 below : Below w.heap.size w wr
theorem cdo_ne {τ β γ : Nat} (h1 : γ ≠ τ) (h2 : γ ≠ β) {p : Part} : ¬ CDo τ β .other (some (γ, p)) := by
 rintro (h | ⟨_, h⟩)
 ·exact ct_ne h1 h
 ·rcases h with h | h
  ·injection h with h; injection h with h _; exact h2 h
  ·injection h with h; injection h with h _; exact h2 h
section
variable {w wr wx : World} {d : Nat} {q : Int} {τ t β b i τ' t' β' b' i' : Nat} {G G' : Gh} {X Y X' : TS} {fs fs' : List Fil} {no L firm firm' no' L' firm2 : Nat}
theorem LW2.swap (h : LW2 w d q τ t β b i τ' t' β' b' i' wr G X Y fs no L firm firm') : LW2 w d q τ' t' β' b' i' τ t β b i wr G Y X fs no L firm' firm :=
 ⟨h.topB, h.topA, h.bookB, h.bookA, h.invB, h.invA, h.firmB, h.firmA, h.ib, h.ia, fun z hz => (h.each z hz).symm, by have := h.no; omega, by have := h.L; omega, by have := h.len; omega, by have := h.sum; omega, h.old, h.below⟩
theorem LW2.room (h : LW2 w d q τ t β b i τ' t' β' b' i' wr G X Y fs no L firm firm') : Room fs no L := by
 have h1 := h.invA.en2
 have h2 := h.invA.cur1
 have k1 := h.invB.en2
 have k2 := h.invB.cur1
 have h3 := h.no
 have h4 := h.L
 have h5 := h.len
 unfold cost at h3
 exact ⟨by omega, by omega, by omega⟩
theorem LW2.sums (h : LW2 w d q τ t β b i τ' t' β' b' i' wr G X Y fs no L firm firm') (hq : q = 1073741824) : ((sumF fs : Nat) : Int) + 4096 <= q := by
 have h1 := h.invA.en2
 have h2 := h.invA.cur1
 have k1 := h.invB.en2
 have k2 := h.invB.cur1
 have h3 := h.sum
 unfold vol at h3
 omega
theorem LW2.keep (h : LW2 w d q τ t β b i τ' t' β' b' i' wr G X Y fs no L firm firm') (hb : Below wr.heap.size wr wx) : LW2 w d q τ t β b i τ' t' β' b' i' wx G X Y fs no L firm firm' :=
 { h with
  topA := by obtain ⟨p, h1⟩ := h.topA; exact ⟨p, h1.below hb⟩
  topB := by obtain ⟨p, h1⟩ := h.topB; exact ⟨p, h1.below hb⟩
  bookA := h.bookA.below hb
  bookB := h.bookB.below hb
  below := h.below.trans (hb.mono h.below.size) }
theorem LW2.next (h : LW2 w d q τ t β b i τ' t' β' b' i' wr G X Y fs no L firm firm') (hF : Fx (CDo τ β) G G' wr wx) (h1 : τ' ≠ τ) (h2 : τ' ≠ β) (h3 : β' ≠ τ) (h4 : β' ≠ β) (h5 : i' ≠ i) (hS : Stp X fs no L X' fs' no' L') (hT : TopAt wx G' τ t d X' q fs' no' L') (hB : BookAt wx G' β b (X'.all ++ X'.wr) firm2) (hf : firm2 = X'.en) : LW2 w d q τ t β b i τ' t' β' b' i' wx G' X' Y fs' no' L' firm2 firm' := by
 have h1' := below_of h.below h.old hF cdo_none
 have a2 := h.no
 have a3 := h.L
 have a4 := h.len
 have a5 := h.sum
 have k2 := hS.no
 have k3 := hS.L
 have k4 := hS.len
 have k5 := hS.sum
 have hi := h.ia
 have hi' := h.ib
 refine ⟨hT, ?_, hB, h.bookB.keep hF (cdo_ne h3 h4) (cdo_ne h3 h4), hS.inv, hS.other h.invA.i h.invB (by rw [hi, hi']; exact h5), hf, h.firmB, hS.i.trans hi, hi', fun z hz => ?_, by omega, by omega, by omega, by omega, h1'.2, h1'.1⟩
 ·obtain ⟨p, hp⟩ := hT
  exact h.topB.other hF hp.fin hp.dk (fun pp => cdo_ne h1 h2) cdo_none
 ·by_cases hz2 : OfN X.i z.name
  ·exact Or.inl (hi ▸ hz2)
  ·exact h.each z (hS.back z hz hz2)
end
theorem do_lw2 (w wr : World) (G : Gh) (d : Nat) (q : Int) (τ t β b i τ' t' β' b' i' : Nat) (X Y : TS) (fs : List Fil) (no L firm firm' : Nat) (h : LW2 w d q τ t β b i τ' t' β' b' i' wr G X Y fs no L firm firm') (h0 : β ≠ τ) (h1 : τ' ≠ τ) (h2 : τ' ≠ β) (h3 : β' ≠ τ) (h4 : β' ≠ β) (h5 : i' ≠ i) (hq : q = 1073741824) (x : Dx) :
  Calls Tryz.prog 9 #[.pointer (some ⟨b, 0, none⟩), .pointer (some ⟨t, 0, none⟩), .agg x.cells] wr fun e w' => e = .returned (.tuple #[.bool true, .bool true]) /\ ∃ G' X' fs' no' L' firm2, LW2 w d q τ t β b i τ' t' β' b' i' w' G' X' Y fs' no' L' firm2 firm' := by
 refine (do_any wr G τ β t d b X q fs no L firm h.topA h.invA h.bookA h0 (Nat.le_of_eq h.firmA) h.room x (fun _ => h.sums hq)).mono ?_
 rintro e w' ⟨rfl, G', X', fs', no', L', hT, hB, hF, hS, hk⟩
 exact ⟨rfl, G', X', fs', no', L', _, h.next hF h1 h2 h3 h4 h5 hS hT hB rfl⟩
noncomputable def whose (s : List UInt8) : Int := by
 classical
 exact if OfN 3 (Sb s) then 3 else 4
theorem pname_num {i cur : Nat} (hi : i < 1073741824) (hc : cur < 1073741824) {s : ByteArray} (h : NumN i cur s) : PName s.data.toList (i : Int) := by
 rcases h with rfl | ⟨n, h1, h2, rfl⟩ | ⟨n, h1, h2, rfl⟩
 ·rw [sb_data]; exact pname_man (okn hi)
 ·rw [sb_data]; exact pname_seg (okn hi) (okn (by omega)) (by omega)
 ·rw [sb_data]; exact pname_hint (okn hi) (okn (by omega)) (by omega)
theorem sb_lnm (f : Fil) : Sb (lnm f) = f.name := rfl
theorem LW2.names {w : World} {d : Nat} {q : Int} {t β b t' β' b' : Nat} {wr : World} {G : Gh} {X Y : TS} {fs : List Fil} {no L firm firm' : Nat} (h : LW2 w d q 3 t β b 3 4 t' β' b' 4 wr G X Y fs no L firm firm') : ∀ f ∈ fs, PName (lnm f) (whose (lnm f)) := fun f hf => by
 have hx := h.invA.cur1
 have hy := h.invB.cur1
 unfold whose
 rw [sb_lnm]
 by_cases h3 : OfN 3 f.name
 ·rw [if_pos h3]
  have := h.invA.own f hf (by rw [h.ia]; exact h3)
  rw [h.ia] at this
  exact pname_num (i := 3) (cur := X.cur) (by omega) (by omega) this
 ·rw [if_neg h3]
  have := h.invB.own f hf (by rw [h.ib]; exact (h.each f hf).resolve_left h3)
  rw [h.ib] at this
  exact pname_num (i := 4) (cur := Y.cur) (by omega) (by omega) this
end Go.Proofs.YtendlmdmbkcdnaaGreatDoor.tp
namespace Go.Proofs.YtendlmdmbkcdnaaGreatDoor.tp
open Go.RowKit Go.Maps Go.WideMaps oc rc gh dk sg ma hi kd dd
open Go.Lib (hid)
open ri (lnm)
set_option maxRecDepth 100000
theorem Inv.grow {Y : TS} {l fs : List Fil} (h : Inv Y l) (h1 : ∀ z ∈ l, z ∈ fs) (h2 : ∀ z ∈ fs, OfN Y.i z.name -> z ∈ l) : Inv Y fs :=
 { h with
  own := fun z hz hn => h.own z (h2 z hz hn) hn
  fcur := by
   obtain ⟨x, hx, h3⟩ := h.fcur
   exact ⟨x, h1 x hx, h3⟩
  fman := by
   obtain ⟨x, hx, h3⟩ := h.fman
   exact ⟨x, h1 x hx, h3⟩
  fold := fun o ho => by
   obtain ⟨x, hx, h3⟩ := h.fold o ho
   exact ⟨x, h1 x hx, h3⟩ }
def newF (i lim ret f f2 : Nat) : List Fil := [⟨Sb (manName i), f2, fNew (manN (newS i lim ret 0).man)⟩, ⟨Sb (nameN i ((1 : Nat) : Int)), f, fSync (fApp ⟨[], [], []⟩ (headN i 1 0))⟩]
theorem newF_of {i lim ret f f2 : Nat} : ∀ z ∈ newF i lim ret f f2, OfN i z.name := fun z hz => by
 rcases List.mem_cons.1 hz with rfl | hz
 ·exact ofN_man i
 ·rw [List.mem_singleton] at hz
  subst hz
  exact ofN_seg i _
theorem newF_num {i lim ret f f2 : Nat} : ∀ z ∈ newF i lim ret f f2, NumN i 1 z.name := fun z hz => by
 rcases List.mem_cons.1 hz with rfl | hz
 ·exact Or.inl rfl
 ·rw [List.mem_singleton] at hz
  subst hz
  exact Or.inr (Or.inl ⟨1, by omega, by omega, rfl⟩)
theorem man_small {i lim ret : Nat} : (manN (newS i lim ret 0).man).length <= 100 := by
 have e : (manN (newS i lim ret 0).man).length = 9 + (uvs (manNums (newS i lim ret 0).man)).length := wrapL_length _ _
 have e2 := uvs_len (manNums (newS i lim ret 0).man)
 have e3 : (manNums (newS i lim ret 0).man).length = 8 := rfl
 omega
theorem newF_sum {i lim ret f f2 : Nat} : sumF (newF i lim ret f f2) <= 121 := by
 have e1 : sumF (newF i lim ret f f2) = (manN (newS i lim ret 0).man).length + 21 := by
  unfold newF
  rw [sumF_new]
  simp [sumF, fSync, fApp, headN_len]
 have := man_small (i := i) (lim := lim) (ret := ret)
 omega
def FrOut (w : World) (d : Nat) (wr : World) : Prop := ∃ t G f f2, TopAt wr G 3 t d (newS 3 300 100 0) 1073741824 (newF 3 300 100 f f2) 8 6 /\ (∀ i, i < w.heap.size -> Is G i none) /\ Below w.heap.size w wr
set_option maxHeartbeats 4000000 in
theorem fresh_law (w : World) (ht : Tab w) :
  Calls Tryz.prog 19 #[] w fun e w' => ∃ t G f f2, e = .returned (.tuple #[.pointer (some ⟨w.heap.size, 0, none⟩), .pointer (some ⟨t, 0, none⟩), .bool true]) /\ TopAt w' G 3 t w.heap.size (newS 3 300 100 0) 1073741824 (newF 3 300 100 f f2) 8 6 /\ (∀ i, i < w.heap.size -> Is G i none) /\ Below w.heap.size w w' := by
 have HT := hid ht
 clear ht
 go_enter Tryz.func19, Tryz.ntmps19
 go_wp2_with fail
 refine (newdisk_any 1073741824 (by decide) (by decide) w).mono ?_
 rintro e w1 ⟨rfl, hD, hb1⟩
 have HCR : Hid (Calls Tryz.prog 8 #[.pointer (some ⟨w.heap.size, 0, none⟩), .int .i64 3, .int .i64 300, .int .i64 100, .int .i64 0] w1 fun e w' => ∃ t G f f2, e = .returned (.tuple #[.pointer (some ⟨t, 0, none⟩), .int .i64 0]) /\ TopAt w' G 3 t w.heap.size (newS 3 300 100 0) 1073741824 (newF 3 300 100 f f2) 8 6 /\ (∀ i, i < w.heap.size -> Is G i none) /\ Below w.heap.size w w') := by
  obtain ⟨hk, hf⟩ := dk_new (q := 1073741824) (by decide) (by decide) hD
  have hlt := tab_lt HT.out
  have hG : ∀ i, i < w.heap.size -> Is (⟨ow0 w.heap.size, fun _ => none⟩ : Gh) i none := fun i hi => ⟨by simp only [ow0]; rw [if_neg (by omega), if_neg (by omega), if_neg (by omega)], rfl⟩
  have htg : TabG w1 ⟨ow0 w.heap.size, fun _ => none⟩ := ⟨tab_below HT.out hb1, hG _ hlt⟩
  have hc := tcreate_any w1 ⟨ow0 w.heap.size, fun _ => none⟩ 3 w.heap.size 3 300 100 0 1073741824 0 0 hk hf htg (by decide) (by decide) (by decide) (by decide) (by decide) (by decide)
  refine hid (Calls.mono hc ?_)
  rintro e w' (⟨t, G', f, f2, rfl, htl, hT, hF⟩ | ⟨rfl, hq, G', hF⟩)
  ·have h2 := below_of hb1 hG hF ct_none
   exact ⟨t, G', f, f2, rfl, hT, h2.2, h2.1⟩
  ·have := man_small (i := 3) (lim := 300) (ret := 100)
   exact absurd hq (by omega)
 clear hD hb1
 go_wp2_with fail
 refine HCR.out.mono ?_
 rintro e w2 ⟨t, G, f, f2, rfl, hT, hG, hb⟩
 have HR := hid (And.intro hT (And.intro hG hb))
 clear hT hG hb HCR
 go_wp2_with fail
 go_ret3
 exact ⟨t, G, f, f2, rfl, HR.out.1, HR.out.2.1, HR.out.2.2⟩
theorem second_law (w wr : World) (G : Gh) (t d f f2 : Nat) (hT : TopAt wr G 3 t d (newS 3 300 100 0) 1073741824 (newF 3 300 100 f f2) 8 6) (ho : ∀ i, i < w.heap.size -> Is G i none) (hb : Below w.heap.size w wr) (hm : MaxLenAt w) :
  Calls Tryz.prog 8 #[.pointer (some ⟨d, 0, none⟩), .int .i64 4, .int .i64 256, .int .i64 0, .int .i64 0] wr fun e w' => ∃ o G' f3 f4, e = .returned (.tuple #[.pointer (some ⟨o, 0, none⟩), .int .i64 0]) /\
   TopAt w' G' 3 t d (newS 3 300 100 0) 1073741824 (newF 4 256 0 f3 f4 ++ newF 3 300 100 f f2) 16 12 /\ TopAt w' G' 4 o d (newS 4 256 0 0) 1073741824 (newF 4 256 0 f3 f4 ++ newF 3 300 100 f f2) 16 12 /\ (∀ i, i < w.heap.size -> Is G' i none) /\ Below w.heap.size w w' := by
 have h3 := hT
 obtain ⟨p, hp⟩ := hT
 have hs := newF_sum (i := 3) (lim := 300) (ret := 100) (f := f) (f2 := f2)
 have hl := man_small (i := 4) (lim := 256) (ret := 0)
 have hne : ∀ {z : Fil}, z ∈ newF 3 300 100 f f2 -> ∀ {n : ByteArray}, OfN 4 n -> z.name ≠ n := by
  intro z hz n hn e
  subst e
  exact ofN_ne (i := 3) (j := 4) (by decide) (by decide) (by decide) (newF_of z hz) hn
 have hc := tcreate_more wr G 4 d 4 256 0 0 1073741824 (newF 3 300 100 f f2) 8 6 hp.dk hp.fin hp.tg (hm.below hb) (by decide) (by decide) (by decide) (by decide) (by decide) (by decide) (fun _ => 3)
  (fun f hf => ⟨pname_num (i := 3) (cur := 1) (by decide) (by decide) (newF_num f hf), by decide⟩) (by show 2 + 1 < 65536; decide) (fun z hz => ⟨hne hz (ofN_seg 4 _), hne hz (ofN_tmp 4), hne hz (ofN_man 4)⟩) (by omega)
 refine Calls.mono hc ?_
 rintro e w' ⟨o, G', f4, f3, rfl, -, hT4, hF⟩
 have h2 := below_of hb ho hF ct_none
 refine ⟨o, G', f4, f3, rfl, ?_, hT4, h2.2, h2.1⟩
 obtain ⟨p4, h4⟩ := hT4
 exact h3.other hF h4.fin h4.dk (fun pp => ct_ne (by decide)) ct_none
end Go.Proofs.YtendlmdmbkcdnaaGreatDoor.tp
namespace Go.Proofs.YtendlmdmbkcdnaaGreatDoor.tp
open Go.RowKit Go.Maps Go.WideMaps oc rc gh dk sg ma hi kd dd
open ri (lnm)
set_option maxRecDepth 100000
theorem TopAt.put {w w' : World} {G : Gh} {τ t d : Nat} {X : TS} {q : Int} {fs : List Fil} {no L : Nat} (h : TopAt w G τ t d X q fs no L) (hb : Below w.heap.size w w') (hs : w.heap.size < w'.heap.size) (r : Role) : TopAt w' (G.put w.heap.size r) τ t d X q fs no L := by
 obtain ⟨p, hp⟩ := h
 have hfx : Fx CN G (G.put w.heap.size r) w w' := Fx.put (Nat.le_refl _) _ (Fx.below hb)
 exact ⟨p, hp.keep hfx ((hp.fin.more hb.size).put hs _) (fun i hi => (hp.fin i hi).1) (fun _ _ h => h.elim) (fun _ h => h) (fun h => h)⟩
theorem lw2_start (w w2 : World) (G : Gh) (t o d f f2 f3 f4 : Nat) (hA : TopAt w2 G 3 t d (newS 3 300 100 0) 1073741824 (newF 4 256 0 f3 f4 ++ newF 3 300 100 f f2) 16 12) (hB : TopAt w2 G 4 o d (newS 4 256 0 0) 1073741824 (newF 4 256 0 f3 f4 ++ newF 3 300 100 f f2) 16 12)
  (ho : ∀ i, i < w.heap.size -> Is G i none) (hb : Below w.heap.size w w2) :
  ∃ G', LW2 w d 1073741824 3 t 9 w2.heap.size 3 4 o 10 (w2.heap.size + 1) 4 ((w2.alloc (.cells #[.slice none 0 0, .int .i64 0] 33)).alloc (.cells #[.slice none 0 0, .int .i64 0] 33)) G' (newS 3 300 100 0) (newS 4 256 0 0) (newF 4 256 0 f3 f4 ++ newF 3 300 100 f f2) 16 12 0 0 := by
 obtain ⟨w3, hw3⟩ : ∃ y, w2.alloc (.cells #[.slice none 0 0, .int .i64 0] 33) = y := ⟨_, rfl⟩
 have hb3 : Below w2.heap.size w2 w3 := by rw [<- hw3]; exact (Below.refl _ _).alloc (Nat.le_refl _) _
 have hz3 : w3.heap.size = w2.heap.size + 1 := by rw [<- hw3, World.size_alloc]
 have hk3 : Blk w3 w2.heap.size 33 #[.slice none 0 0, .int .i64 0] := by rw [<- hw3]; exact Blk.new _ _ _
 rw [hw3]
 obtain ⟨w4, hw4⟩ : ∃ y, w3.alloc (.cells #[.slice none 0 0, .int .i64 0] 33) = y := ⟨_, rfl⟩
 have hb4 : Below w3.heap.size w3 w4 := by rw [<- hw4]; exact (Below.refl _ _).alloc (Nat.le_refl _) _
 have hz4 : w4.heap.size = w3.heap.size + 1 := by rw [<- hw4, World.size_alloc]
 have hk4 : Blk w4 w3.heap.size 33 #[.slice none 0 0, .int .i64 0] := by rw [<- hw4]; exact Blk.new _ _ _
 rw [hw4]
 clear hw3 hw4
 have hA3 := hA.put hb3 (by omega) (some (9, .top))
 have hB3 := hB.put hb3 (by omega) (some (9, .top))
 have hf2 : Fin G w2 := by obtain ⟨p, hp⟩ := hA; exact hp.fin
 have hf3 : Fin (G.put w2.heap.size (some (9, .top))) w3 := by obtain ⟨p, hp⟩ := hA3; exact hp.fin
 have hA4 := hA3.put hb4 (by omega) (some (10, .top))
 have hB4 := hB3.put hb4 (by omega) (some (10, .top))
 rw [<- hz3]
 refine ⟨_, hA4, hB4, ?_, ?_, (inv_new (i := 3) (lim := 300) (ret := 100) (k := 0) (f := f) (f2 := f2) (by decide) (by decide) (by decide)).grow (fun z hz => List.mem_append_right _ hz) (fun z hz hn => ?_), (inv_new (i := 4) (lim := 256) (ret := 0) (k := 0) (f := f3) (f2 := f4) (by decide) (by decide) (by decide)).grow (fun z hz => List.mem_append_left _ hz) (fun z hz hn => ?_), rfl, rfl, rfl, rfl, fun z hz => ?_, by decide, by decide, by show (4 : Nat) <= 2 * 1 + 2 * 1 + 200; decide, ?_, fun i hi => ?_, ?_⟩
 ·exact ⟨none, 0, ⟨hk3.below hb4 hk3.lt, Gh.put_other (Gh.put_same _ _ _ (hf2 _ (Nat.le_refl _)).1) (by omega)⟩, World.ownsRow_nil _ _ _ _, fun b hb => by cases hb⟩
 ·exact ⟨none, 0, ⟨hk4, Gh.put_same _ _ _ (hf3 _ (Nat.le_refl _)).1⟩, World.ownsRow_nil _ _ _ _, fun b hb => by cases hb⟩
 ·rcases List.mem_append.1 hz with hz | hz
  ·exact absurd hn (ofN_ne (i := 4) (j := 3) (by decide) (by decide) (by decide) (newF_of z hz))
  ·exact hz
 ·rcases List.mem_append.1 hz with hz | hz
  ·exact hz
  ·exact absurd hn (ofN_ne (i := 3) (j := 4) (by decide) (by decide) (by decide) (newF_of z hz))
 ·rcases List.mem_append.1 hz with hz | hz
  ·exact Or.inr (newF_of z hz)
  ·exact Or.inl (newF_of z hz)
 ·have h1 := newF_sum (i := 4) (lim := 256) (ret := 0) (f := f3) (f2 := f4)
  have h2 := newF_sum (i := 3) (lim := 300) (ret := 100) (f := f) (f2 := f2)
  have e : sumF (newF 4 256 0 f3 f4 ++ newF 3 300 100 f f2) = sumF (newF 4 256 0 f3 f4) + sumF (newF 3 300 100 f f2) := by simp [sumF]
  rw [e]
  omega
 ·exact Gh.put_other (Gh.put_other (ho i hi) (by have := hb.size; omega)) (by have := hb.size; omega)
 ·exact (hb.trans (hb3.mono hb.size)).trans (hb4.mono (by have := hb.size; omega))
end Go.Proofs.YtendlmdmbkcdnaaGreatDoor.tp
