/-
  Texts of the proof joined by a program: Too Rib Ric Top Toq Tor.
-/
import Derived.Test.YtendlmdmbkcdnaaGreatDoorVq
import Derived.Deep.LoopGhost
import Derived.Test.YtendlmdmbkcdnaaGreatDoorSml
import Derived.Test.YtendlmdmbkcdnaaGreatDoorVl
import Derived.OwnWalk
import Derived.Sort.KeysCollected
import Derived.Sort.OwnSorted
import Derived.Maps.AppendAt
import Derived.Maps.RangeWalk
set_option linter.unusedSimpArgs false
set_option linter.unusedVariables false
namespace Go.Proofs.YtendlmdmbkcdnaaGreatDoor.tp
open Go.RowKit Go.Maps Go.WideMaps oc rc gh dk sg ma hi kd dd
open Go.Lib (hid)
set_option maxRecDepth 100000
def DirR (w : World) (G : Gh) (τ : Nat) (d : Nat) (T : KT) : Prop := DirAt w (fun i => Is G i none) d T /\ Is G d (some (τ, .dir))
theorem DirR.keep {C : Tag -> Role -> Prop} {w w' : World} {G G' : Gh} {τ d : Nat} {T : KT} (h : DirR w G τ d T) (hF : Fx C G G' w w') (h1 : ¬ C .other (some (τ, .dir))) (h2 : ¬ C .other none) : DirR w' G' τ d T := by
 obtain ⟨⟨p, hb, ht⟩, hr⟩ := h
 have k := (show BlkR w G d 270 #[pv p] (some (τ, .dir)) from ⟨hb, hr⟩).keep hF h1
 exact ⟨⟨p, k.1, ht.keep (fun i hi hF0 => ⟨hF0.keep hF hi, hF.keep i hi (by rw [hF0.1, hF0.2]; exact h2)⟩)⟩, k.2⟩
def man0 : ManS := ⟨0, 0, 0, 0, 0, [], []⟩
def tc0 (d : Nat) (id lim ret clock : Int) (dr tb al td ch : Nat) : Tc := ⟨d, id, lim, ret, man0, none, 0, none, 0, none, dr, tb, al, none, 0, 0, 0, clock, 1, td, ch, false⟩
def FreshOut (w : World) (G : Gh) (τ d : Nat) (id lim ret clock : Int) (e : Ending) (w' : World) : Prop :=
 ∃ t dr tb tm al am td ch G', e = .returned (.pointer (some ⟨t, 0, none⟩)) /\ w.heap.size <= t /\ BlkR w' G' t 110 (tc0 d id lim ret clock dr tb al td ch).cells (some (τ, .top)) /\
  DirR w' G' τ dr .nil /\ TabR w' G' τ .tab .tabm tb tm 0 (.map []) /\ TabR w' G' τ .all .allm al am 0 (.map []) /\ MapR w' G' 3 slR ch 0 (.map []) (some (τ, .cached)) /\ Below w.heap.size w w' /\ Fx CN G G' w w' /\ Fin G' w' /\ G'.ow = G.ow
def g7 (τ : Nat) (G : Gh) (t dr ch tm tb am al : Nat) : Gh := ((((((G.put t (some (τ, .top))).put dr (some (τ, .dir))).put ch (some (τ, .cached))).put tm (some (τ, .tabm))).put tb (some (τ, .tab))).put am (some (τ, .allm))).put al (some (τ, .all))
structure FS (w W : World) (bp : Nat) (pc : Array Value) (dr m1 m2 : Option Nat) : Prop where
 bl : Below w.heap.size w W
 pl : Blk W bp 102 pc
 dir : ∀ x, dr = some x -> w.heap.size <= x /\ Blk W x 270 #[.pointer none]
 mt : ∀ x, m1 = some x -> w.heap.size <= x /\ x < W.heap.size
 mc : ∀ x, m2 = some x -> w.heap.size <= x /\ W.ownsMap Tryz.prog 3 slR x 0 (.map [])
 n1 : ∀ x y, dr = some x -> m1 = some y -> x ≠ y
 n2 : ∀ x y, dr = some x -> m2 = some y -> x ≠ y
 n3 : ∀ x y, m1 = some x -> m2 = some y -> x ≠ y
section
variable {w W W' : World} {bp : Nat} {pc : Array Value} {dr m1 m2 : Option Nat}
theorem FS.below (h : FS w W bp pc dr m1 m2) (hb : Below W.heap.size W W') : FS w W' bp pc dr m1 m2 :=
 ⟨h.bl.trans (hb.mono h.bl.size), h.pl.below hb h.pl.lt, fun x e => ⟨(h.dir x e).1, (h.dir x e).2.below hb (h.dir x e).2.lt⟩, fun x e => ⟨(h.mt x e).1, Nat.lt_of_lt_of_le (h.mt x e).2 hb.size⟩, fun x e => ⟨(h.mc x e).1, map_keepH (h.mc x e).2 (hb.block x (h.mc x e).2.lt)⟩, h.n1, h.n2, h.n3⟩
theorem FS.new (h : FS w W bp pc none m1 m2) (hb : Below W.heap.size W W') (hd : Blk W' W.heap.size 270 #[.pointer none]) : FS w W' bp pc (some W.heap.size) m1 m2 := by
 have k := h.below hb
 refine ⟨k.bl, k.pl, fun x e => ?_, k.mt, k.mc, fun x y e1 e2 => ?_, fun x y e1 e2 => ?_, k.n3⟩
 ·cases e; exact ⟨h.bl.size, hd⟩
 ·cases e1; have := (h.mt y e2).2; omega
 ·cases e1; have := (h.mc y e2).2.lt; omega
theorem FS.stepT (h : FS w W bp pc dr none m2) : FS w (W.alloc (.map #[] 0)) bp pc dr (some W.heap.size) m2 := by
 have k := h.below ((Below.refl _ _).alloc (Nat.le_refl _) (.map #[] 0))
 refine ⟨k.bl, k.pl, k.dir, fun x e => ?_, k.mc, fun x y e1 e2 => ?_, k.n2, fun x y e1 e2 => ?_⟩
 ·cases e; exact ⟨h.bl.size, by simp⟩
 ·cases e2; have := (h.dir x e1).2.lt; omega
 ·cases e1; have := (h.mc y e2).2.lt; omega
theorem FS.stepC (h : FS w W bp pc dr m1 none) : FS w (W.alloc (.map #[] 0)) bp pc dr m1 (some W.heap.size) := by
 have k := h.below ((Below.refl _ _).alloc (Nat.le_refl _) (.map #[] 0))
 refine ⟨k.bl, k.pl, k.dir, k.mt, fun x e => ?_, k.n1, fun x y e1 e2 => ?_, fun x y e1 e2 => ?_⟩
 ·cases e; exact ⟨h.bl.size, World.ownsMap_made W _ _ _⟩
 ·cases e2; have := (h.dir x e1).2.lt; omega
 ·cases e2; have := (h.mt x e1).2; omega
end
def FCut (w : World) (d : Nat) (id lim ret clock : Int) (v : Value) (wx : World) : Prop := ∃ t dr td ch bp pc, v = .pointer (some ⟨t, 0, none⟩) /\ w.heap.size <= t /\ t ≠ dr /\ t ≠ ch /\ t ≠ td /\ Blk wx t 110 #[.pointer (some ⟨d, 0, none⟩), .int .i64 id, .int .i64 lim, .int .i64 ret, .int .i64 0, .int .i64 0, .int .i64 0, .int .i64 0, .int .i64 0, .slice none 0 0, .slice none 0 0, .pointer none, .pointer (some ⟨dr, 0, none⟩), .pointer none, .pointer none, .slice none 0 0, .int .i64 0, .int .i64 clock, .int .i64 1, .map (some td), .map (some ch), .bool false, .bool false] /\ FS w wx bp pc (some dr) (some td) (some ch)
theorem fcut_of {w W : World} {d bp n : Nat} {id lim ret clock : Int} {pc : Array Value} {dr td ch dr' td' ch' : Nat} (h : FS w W bp pc (some dr') (some td') (some ch')) (hn : W.heap.size = n) (h1 : dr' = dr) (h2 : td' = td) (h3 : ch' = ch) :
  FCut w d id lim ret clock (.pointer (some ⟨n, 0, none⟩)) (W.alloc (.cells #[.pointer (some ⟨d, 0, none⟩), .int .i64 id, .int .i64 lim, .int .i64 ret, .int .i64 0, .int .i64 0, .int .i64 0, .int .i64 0, .int .i64 0, .slice none 0 0, .slice none 0 0, .pointer none, .pointer (some ⟨dr, 0, none⟩), .pointer none, .pointer none, .slice none 0 0, .int .i64 0, .int .i64 clock, .int .i64 1, .map (some td), .map (some ch), .bool false, .bool false] 110)) := by
 subst hn h1 h2 h3
 exact ⟨W.heap.size, dr', td', ch', bp, pc, rfl, h.bl.size, by have := (h.dir dr' rfl).2.lt; omega, by have := (h.mc ch' rfl).2.lt; omega, by have := (h.mt td' rfl).2; omega, Blk.new W _ _, h.below ((Below.refl _ _).alloc (Nat.le_refl _) _)⟩
abbrev PhP (bp : Nat) (cs : Array Value) : World -> Prop := fun W => Blk W bp 102 cs
set_option maxHeartbeats 8000000 in
theorem fresh_any (w : World) (G : Gh) (τ d : Nat) (id lim ret clock : Int) (hf : Fin G w) :
  Calls Tryz.prog 37 #[.agg (placeC d id lim ret), .int .i64 clock] w (FreshOut w G τ d id lim ret clock) := by
 have HF := hid hf
 have hmm := @run_makeMap Tryz.prog
 clear hf
 unfold placeC
 go_enter Tryz.func37, Tryz.ntmps37
 go_wp2_with fail
 obtain ⟨w0, hw0⟩ : ∃ x, w.alloc (.cells #[.pointer (some ⟨d, 0, none⟩), .int .i64 id, .int .i64 lim, .int .i64 ret] 102) = x := ⟨_, rfl⟩
 have HB0 : Hid (Below w.heap.size w w0) := by rw [<- hw0]; exact hid ((Below.refl _ _).alloc (Nat.le_refl _) _)
 have HZ0 : Hid (w0.heap.size = w.heap.size + 1) := by rw [<- hw0]; exact hid (by simp)
 have HN0 : Hid (Blk w0 w.heap.size 102 #[.pointer (some ⟨d, 0, none⟩), .int .i64 id, .int .i64 lim, .int .i64 ret]) := by rw [<- hw0]; exact hid (Blk.new w _ _)
 simp only [hw0]
 clear hw0
 go_cut [5] (fun v wx => FCut w d id lim ret clock v wx)
 case rest =>
  obtain ⟨t, dr, td, ch, bp, pc, rfl, ht, n1, n2, n3, hb, hfs⟩ := hcut
  have HB := hid hb
  have HFS := hid hfs
  have HT : Hid (w.heap.size <= t /\ t ≠ dr /\ t ≠ ch /\ t ≠ td /\ t < wc.heap.size) := hid ⟨ht, n1, n2, n3, hb.lt⟩
  clear ht n1 n2 n3 hb hfs HB0 HZ0 HN0
  go_wp2_with fail
  refine (new_nil wc 0).mono ?_
  rintro e w2 ⟨rfl, ht2, hb2⟩
  have HT2 := hid ht2
  have HB2 := hid hb2
  have HBT2 := hid (HB.out.below hb2 HB.out.lt)
  clear ht2 hb2
  go_wp2_with (first
   | ((with_reducible refine at_op ⟨none, .store 105 (.tmp 19) (.tmp 16), _, _, _, _⟩ ?_); refine wpList_store_one rfl 105 (.tmp 19) (.tmp 16) rfl t 13 rfl (.pointer (some ⟨wc.heap.size + 1, 0, none⟩)) rfl rfl rfl 110 _ HBT2.out (by simp) (by kernel_rfl) ?_; intro w3 hT3 hg3 hz3; have HBT3 : Hid (Blk w3 t 110 #[.pointer (some ⟨d, 0, none⟩), .int .i64 id, .int .i64 lim, .int .i64 ret, .int .i64 0, .int .i64 0, .int .i64 0, .int .i64 0, .int .i64 0, .slice none 0 0, .slice none 0 0, .pointer none, .pointer (some ⟨dr, 0, none⟩), .pointer (some ⟨wc.heap.size + 1, 0, none⟩), .pointer none, .slice none 0 0, .int .i64 0, .int .i64 clock, .int .i64 1, .map (some td), .map (some ch), .bool false, .bool false]) := hid hT3; have HG3 := hid hg3; have HZ3 := hid hz3; have c13 : w3.cell? ⟨t, 13, none⟩ = some (.pointer (some ⟨wc.heap.size + 1, 0, none⟩)) := (HBT3.out.cell 13).trans rfl; clear hT3 hg3 hz3)
   | fail)
  have HT3 : Hid (TabAt w3 (wc.heap.size + 1) wc.heap.size 0 (.map [])) := hid ⟨HT2.out.1.grown HG3.out (by intro e; injection e with e; have := HT.out; omega), map_keepH HT2.out.2 (HG3.out.block _ HT2.out.2.lt (by intro e; injection e with e; have := HT.out; omega))⟩
  refine (clone_any w3 (wc.heap.size + 1) wc.heap.size 0 (.map []) HT3.out (by decide)).mono ?_
  rintro e w4 ⟨rfl, ht4, hb4⟩
  have HT4 := hid ht4
  have HB4 := hid hb4
  have HBT4 := hid (HBT3.out.below hb4 HBT3.out.lt)
  clear ht4 hb4 c13
  go_wp2_with (first
   | ((with_reducible refine at_op ⟨none, .store 105 (.tmp 27) (.tmp 25), _, _, _, _⟩ ?_); refine wpList_store_one rfl 105 (.tmp 27) (.tmp 25) rfl t 14 rfl (.pointer (some ⟨w3.heap.size + 1, 0, none⟩)) rfl rfl rfl 110 _ HBT4.out (by simp) (by kernel_rfl) ?_; intro w5 hT5 hg5 hz5; have HBT5 : Hid (Blk w5 t 110 #[.pointer (some ⟨d, 0, none⟩), .int .i64 id, .int .i64 lim, .int .i64 ret, .int .i64 0, .int .i64 0, .int .i64 0, .int .i64 0, .int .i64 0, .slice none 0 0, .slice none 0 0, .pointer none, .pointer (some ⟨dr, 0, none⟩), .pointer (some ⟨wc.heap.size + 1, 0, none⟩), .pointer (some ⟨w3.heap.size + 1, 0, none⟩), .slice none 0 0, .int .i64 0, .int .i64 clock, .int .i64 1, .map (some td), .map (some ch), .bool false, .bool false]) := hid hT5; have HG5 := hid hg5; have HZ5 := hid hz5; clear hT5 hg5 hz5)
   | fail)
  go_ret
  have z2 := HB2.out.size
  have z3 := HZ3.out
  have z4 := HB4.out.size
  have z5 := HZ5.out
  have l1 := HT2.out.1.lt
  have l2 := HT4.out.1.lt
  have hT := HT.out
  have hdr := HFS.out.dir dr rfl
  have hch := HFS.out.mc ch rfl
  have hdl := hdr.2.lt
  have hcl := hch.2.lt
  have hne := HFS.out.n2 dr ch rfl rfl
  have hF := HF.out
  have hbl := HFS.out.bl.size
  have hall : Below w.heap.size w w5 := ((((HFS.out.bl.trans (HB2.out.mono hbl)).grown HG3.out (by omega) (fun k hk => by injection hk with hk; omega)).trans (HB4.out.mono (by omega))).grown HG5.out (by omega) (fun k hk => by injection hk with hk; omega))
  have keep : ∀ i, i < wc.heap.size -> i ≠ t -> w5.heap[i]? = wc.heap[i]? := fun i hi hn => by
   rw [HG5.out.block i (by omega) (by intro e; injection e with e; exact hn e), HB4.out.block i (by omega), HG3.out.block i (by omega) (by intro e; injection e with e; exact hn e), HB2.out.block i hi]
  have k3 : ∀ i, i < w2.heap.size -> i ≠ t -> w5.heap[i]? = w2.heap[i]? := fun i hi hn => by
   rw [HG5.out.block i (by omega) (by intro e; injection e with e; exact hn e), HB4.out.block i (by omega), HG3.out.block i (by omega) (by intro e; injection e with e; exact hn e)]
  have k5 : ∀ i, i < w4.heap.size -> i ≠ t -> w5.heap[i]? = w4.heap[i]? := fun i hi hn => HG5.out.block i hi (by intro e; injection e with e; exact hn e)
  refine ⟨t, dr, wc.heap.size + 1, wc.heap.size, w3.heap.size + 1, w3.heap.size, td, ch, g7 τ G t dr ch wc.heap.size (wc.heap.size + 1) w3.heap.size (w3.heap.size + 1), rfl, hT.1, ⟨HBT5.out, ?_⟩, ⟨⟨none, blk_keepH hdr.2 (keep dr hdl (by omega)), rfl⟩, ?_⟩, ⟨⟨blk_keepH HT2.out.1 (k3 _ l1 (by omega)), map_keepH HT2.out.2 (k3 _ (by omega) (by omega))⟩, ?_, ?_⟩, ⟨⟨blk_keepH HT4.out.1 (k5 _ l2 (by omega)), map_keepH HT4.out.2 (k5 _ (by omega) (by omega))⟩, ?_, ?_⟩, ⟨map_keepH hch.2 (keep ch hcl (by omega)), ?_⟩, hall, ?_, ?_, rfl⟩
  ·exact Gh.put_other (Gh.put_other (Gh.put_other (Gh.put_other (Gh.put_other (Gh.put_other (Gh.put_same _ _ _ (hF t (by omega)).1) (by omega)) (by omega)) (by omega)) (by omega)) (by omega)) (by omega)
  ·exact Gh.put_other (Gh.put_other (Gh.put_other (Gh.put_other (Gh.put_other (Gh.put_same _ _ _ (hF dr (by omega)).1) (by omega)) (by omega)) (by omega)) (by omega)) (by omega)
  ·exact Gh.put_other (Gh.put_other (Gh.put_same _ _ _ (hF (wc.heap.size + 1) (by omega)).1) (by omega)) (by omega)
  ·exact Gh.put_other (Gh.put_other (Gh.put_other (Gh.put_same _ _ _ (hF wc.heap.size (by omega)).1) (by omega)) (by omega)) (by omega)
  ·exact Gh.put_same _ _ _ (hF (w3.heap.size + 1) (by omega)).1
  ·exact Gh.put_other (Gh.put_same _ _ _ (hF w3.heap.size (by omega)).1) (by omega)
  ·exact Gh.put_other (Gh.put_other (Gh.put_other (Gh.put_other (Gh.put_same _ _ _ (hF ch (by omega)).1) (by omega)) (by omega)) (by omega)) (by omega)
  ·exact (((((((Fx.below hall).put (by omega) _).put (by omega) _).put (by omega) _).put (by omega) _).put (by omega) _).put (by omega) _).put (by omega) _
  ·exact (((((((hF.more hall.size).put (by omega) _).put (by omega) _).put (by omega) _).put (by omega) _).put (by omega) _).put (by omega) _).put (by omega) _
 case first =>
  refine wp_region_head 7 (PhP w.heap.size #[.pointer (some ⟨d, 0, none⟩), .int .i64 id, .int .i64 lim, .int .i64 ret]) (by kernel_rfl) (by kernel_rfl) (fun w1 hh1 hb1 => ?_)
  have HB1 : Hid (Below w.heap.size w w1) := hid (HB0.out.trans (hb1.mono HB0.out.size))
  have HP1 := hid (HN0.out.below hb1 HN0.out.lt : PhP w.heap.size #[.pointer (some ⟨d, 0, none⟩), .int .i64 id, .int .i64 lim, .int .i64 ret] w1)
  have HZ1 : Hid (w1.heap.size = w.heap.size + 1) := hid (by rw [hh1]; exact HZ0.out)
  have hne0 : Nonempty (Held (PhP w.heap.size #[.pointer (some ⟨d, 0, none⟩), .int .i64 id, .int .i64 lim, .int .i64 ret])) := ⟨⟨_, HP1.out⟩⟩
  have k0 : ∀ p : Held (PhP w.heap.size #[.pointer (some ⟨d, 0, none⟩), .int .i64 id, .int .i64 lim, .int .i64 ret]), p.w.cell? ⟨w.heap.size, 0, none⟩ = some (.pointer (some ⟨d, 0, none⟩)) := fun p => (p.h.cell 0).trans rfl
  have k1 : ∀ p : Held (PhP w.heap.size #[.pointer (some ⟨d, 0, none⟩), .int .i64 id, .int .i64 lim, .int .i64 ret]), p.w.cell? ⟨w.heap.size, 1, none⟩ = some (.int .i64 id) := fun p => (p.h.cell 1).trans rfl
  have k2 : ∀ p : Held (PhP w.heap.size #[.pointer (some ⟨d, 0, none⟩), .int .i64 id, .int .i64 lim, .int .i64 ret]), p.w.cell? ⟨w.heap.size, 2, none⟩ = some (.int .i64 lim) := fun p => (p.h.cell 2).trans rfl
  have k3 : ∀ p : Held (PhP w.heap.size #[.pointer (some ⟨d, 0, none⟩), .int .i64 id, .int .i64 lim, .int .i64 ret]), p.w.cell? ⟨w.heap.size, 3, none⟩ = some (.int .i64 ret) := fun p => (p.h.cell 3).trans rfl
  clear hh1 hb1 HN0
  refine headI_batch 0 1 (by kernel_rfl) (by kernel_rfl) HP1.out ?_
  simp only [List.take, List.drop]
  repeat (first | go_big_quiet_skip | (go_big_quiet_want; go_big_quiet_op; go_big_quiet_on))
  refine wpQuiet_nil ?_
  clear k0 k1 k2 k3
  refine headI_batch 2 1 (by kernel_rfl) (by kernel_rfl) HP1.out ?_
  simp only [List.take, List.drop]
  repeat (first | go_big_quiet_skip | (go_big_quiet_want; go_big_quiet_op; go_big_quiet_on))
  refine wpQuiet_nil ?_
  have HS1 : Hid (FS w w1 w.heap.size #[.pointer (some ⟨d, 0, none⟩), .int .i64 id, .int .i64 lim, .int .i64 ret] none none none) := hid ⟨HB1.out, HP1.out, (fun _ e => by cases e), (fun _ e => by cases e), (fun _ e => by cases e), (fun _ _ e => by cases e), (fun _ _ e => by cases e), (fun _ _ e => by cases e)⟩
  refine headI_loud3 1 3 4 (by kernel_rfl) (by kernel_rfl) HS1.out.pl ?_ ?_ ?_
  ·simp only [List.take, List.drop]
   go_wp2_with fail
   refine (new_any (w1) (fun _ => True)).mono ?_
   rintro e u2 ⟨rfl, ⟨p2, hq2, ht2⟩, hb2⟩
   obtain rfl : p2 = none := ht2
   have S2 := hid (HS1.out.new hb2 hq2)
   clear hq2 hb2
   go_wp2_with fail
   refine ⟨rfl, ?_⟩
   refine headI_loud2 3 4 (by kernel_rfl) (by kernel_rfl) S2.out.pl ?_ ?_
   ·simp only [List.take, List.drop]
    have S3 := hid S2.out.stepT
    go_wp2_with fail
    refine ⟨rfl, ?_⟩
    refine headI_loud 4 (by kernel_rfl) (by kernel_rfl) S3.out.pl ?_
    ·simp only [List.take, List.drop]
     have S4 := hid S3.out.stepC
     go_wp2_with fail
     refine ⟨rfl, ?_⟩
     refine headI_batch 5 1 (by kernel_rfl) (by kernel_rfl) S4.out.pl ?_
     simp only [List.take, List.drop]
     repeat (first | go_big_quiet_skip | (go_big_quiet_want; go_big_quiet_op; go_big_quiet_on))
     refine wpQuiet_nil ?_
     refine headI_loud 6 (by kernel_rfl) (by kernel_rfl) S4.out.pl ?_
     simp only [List.take, List.drop]
     go_wp2_with fail
     refine ⟨rfl, ?_⟩
     refine headI_end (by kernel_rfl) (S4.out.pl.alloc _) ?_
     simp only [List.take, List.drop]
     go_wp2_with fail
     go_meet
     exact fcut_of S4.out (by simp) (by simp) (by simp) (by simp)
   ·simp only [List.take, List.drop]
    have S3 := hid S2.out.stepC
    go_wp2_with fail
    refine ⟨rfl, ?_⟩
    refine headI_loud 3 (by kernel_rfl) (by kernel_rfl) S3.out.pl ?_
    ·simp only [List.take, List.drop]
     have S4 := hid S3.out.stepT
     go_wp2_with fail
     refine ⟨rfl, ?_⟩
     refine headI_batch 5 1 (by kernel_rfl) (by kernel_rfl) S4.out.pl ?_
     simp only [List.take, List.drop]
     repeat (first | go_big_quiet_skip | (go_big_quiet_want; go_big_quiet_op; go_big_quiet_on))
     refine wpQuiet_nil ?_
     refine headI_loud 6 (by kernel_rfl) (by kernel_rfl) S4.out.pl ?_
     simp only [List.take, List.drop]
     go_wp2_with fail
     refine ⟨rfl, ?_⟩
     refine headI_end (by kernel_rfl) (S4.out.pl.alloc _) ?_
     simp only [List.take, List.drop]
     go_wp2_with fail
     go_meet
     exact fcut_of S4.out (by simp) (by simp) (by simp) (by simp)
  ·simp only [List.take, List.drop]
   have S2 := hid HS1.out.stepT
   go_wp2_with fail
   refine ⟨rfl, ?_⟩
   refine headI_loud2 1 4 (by kernel_rfl) (by kernel_rfl) S2.out.pl ?_ ?_
   ·simp only [List.take, List.drop]
    go_wp2_with fail
    refine (new_any ((w1).alloc (.map #[] 0)) (fun _ => True)).mono ?_
    rintro e u3 ⟨rfl, ⟨p3, hq3, ht3⟩, hb3⟩
    obtain rfl : p3 = none := ht3
    have S3 := hid (S2.out.new hb3 hq3)
    clear hq3 hb3
    go_wp2_with fail
    refine ⟨rfl, ?_⟩
    refine headI_loud 4 (by kernel_rfl) (by kernel_rfl) S3.out.pl ?_
    ·simp only [List.take, List.drop]
     have S4 := hid S3.out.stepC
     go_wp2_with fail
     refine ⟨rfl, ?_⟩
     refine headI_batch 5 1 (by kernel_rfl) (by kernel_rfl) S4.out.pl ?_
     simp only [List.take, List.drop]
     repeat (first | go_big_quiet_skip | (go_big_quiet_want; go_big_quiet_op; go_big_quiet_on))
     refine wpQuiet_nil ?_
     refine headI_loud 6 (by kernel_rfl) (by kernel_rfl) S4.out.pl ?_
     simp only [List.take, List.drop]
     go_wp2_with fail
     refine ⟨rfl, ?_⟩
     refine headI_end (by kernel_rfl) (S4.out.pl.alloc _) ?_
     simp only [List.take, List.drop]
     go_wp2_with fail
     go_meet
     exact fcut_of S4.out (by simp) (by simp) (by simp) (by simp)
   ·simp only [List.take, List.drop]
    have S3 := hid S2.out.stepC
    go_wp2_with fail
    refine ⟨rfl, ?_⟩
    refine headI_loud 1 (by kernel_rfl) (by kernel_rfl) S3.out.pl ?_
    ·simp only [List.take, List.drop]
     go_wp2_with fail
     refine (new_any (((w1).alloc (.map #[] 0)).alloc (.map #[] 0)) (fun _ => True)).mono ?_
     rintro e u4 ⟨rfl, ⟨p4, hq4, ht4⟩, hb4⟩
     obtain rfl : p4 = none := ht4
     have S4 := hid (S3.out.new hb4 hq4)
     clear hq4 hb4
     go_wp2_with fail
     refine ⟨rfl, ?_⟩
     refine headI_batch 5 1 (by kernel_rfl) (by kernel_rfl) S4.out.pl ?_
     simp only [List.take, List.drop]
     repeat (first | go_big_quiet_skip | (go_big_quiet_want; go_big_quiet_op; go_big_quiet_on))
     refine wpQuiet_nil ?_
     refine headI_loud 6 (by kernel_rfl) (by kernel_rfl) S4.out.pl ?_
     simp only [List.take, List.drop]
     go_wp2_with fail
     refine ⟨rfl, ?_⟩
     refine headI_end (by kernel_rfl) (S4.out.pl.alloc _) ?_
     simp only [List.take, List.drop]
     go_wp2_with fail
     go_meet
     exact fcut_of S4.out (by simp) (by simp) (by simp) (by simp)
  ·simp only [List.take, List.drop]
   have S2 := hid HS1.out.stepC
   go_wp2_with fail
   refine ⟨rfl, ?_⟩
   refine headI_loud2 1 3 (by kernel_rfl) (by kernel_rfl) S2.out.pl ?_ ?_
   ·simp only [List.take, List.drop]
    go_wp2_with fail
    refine (new_any ((w1).alloc (.map #[] 0)) (fun _ => True)).mono ?_
    rintro e u3 ⟨rfl, ⟨p3, hq3, ht3⟩, hb3⟩
    obtain rfl : p3 = none := ht3
    have S3 := hid (S2.out.new hb3 hq3)
    clear hq3 hb3
    go_wp2_with fail
    refine ⟨rfl, ?_⟩
    refine headI_loud 3 (by kernel_rfl) (by kernel_rfl) S3.out.pl ?_
    ·simp only [List.take, List.drop]
     have S4 := hid S3.out.stepT
     go_wp2_with fail
     refine ⟨rfl, ?_⟩
     refine headI_batch 5 1 (by kernel_rfl) (by kernel_rfl) S4.out.pl ?_
     simp only [List.take, List.drop]
     repeat (first | go_big_quiet_skip | (go_big_quiet_want; go_big_quiet_op; go_big_quiet_on))
     refine wpQuiet_nil ?_
     refine headI_loud 6 (by kernel_rfl) (by kernel_rfl) S4.out.pl ?_
     simp only [List.take, List.drop]
     go_wp2_with fail
     refine ⟨rfl, ?_⟩
     refine headI_end (by kernel_rfl) (S4.out.pl.alloc _) ?_
     simp only [List.take, List.drop]
     go_wp2_with fail
     go_meet
     exact fcut_of S4.out (by simp) (by simp) (by simp) (by simp)
   ·simp only [List.take, List.drop]
    have S3 := hid S2.out.stepT
    go_wp2_with fail
    refine ⟨rfl, ?_⟩
    refine headI_loud 1 (by kernel_rfl) (by kernel_rfl) S3.out.pl ?_
    ·simp only [List.take, List.drop]
     go_wp2_with fail
     refine (new_any (((w1).alloc (.map #[] 0)).alloc (.map #[] 0)) (fun _ => True)).mono ?_
     rintro e u4 ⟨rfl, ⟨p4, hq4, ht4⟩, hb4⟩
     obtain rfl : p4 = none := ht4
     have S4 := hid (S3.out.new hb4 hq4)
     clear hq4 hb4
     go_wp2_with fail
     refine ⟨rfl, ?_⟩
     refine headI_batch 5 1 (by kernel_rfl) (by kernel_rfl) S4.out.pl ?_
     simp only [List.take, List.drop]
     repeat (first | go_big_quiet_skip | (go_big_quiet_want; go_big_quiet_op; go_big_quiet_on))
     refine wpQuiet_nil ?_
     refine headI_loud 6 (by kernel_rfl) (by kernel_rfl) S4.out.pl ?_
     simp only [List.take, List.drop]
     go_wp2_with fail
     refine ⟨rfl, ?_⟩
     refine headI_end (by kernel_rfl) (S4.out.pl.alloc _) ?_
     simp only [List.take, List.drop]
     go_wp2_with fail
     go_meet
     exact fcut_of S4.out (by simp) (by simp) (by simp) (by simp)
end Go.Proofs.YtendlmdmbkcdnaaGreatDoor.tp
namespace Go.Proofs.YtendlmdmbkcdnaaGreatDoor.ri
open Go.RowKit Go.Maps Go.WideMaps Go.Sort oc
open Go.Proofs (encStr)
set_option maxRecDepth 100000
theorem ins_str (v : Value) (b : Int) (hb : b <= 1) (w : World) : Calls Tryz.prog 220 #[v, .int .i64 0, .int .i64 b] w fun e w' => e = .returned (.tuple #[]) /\ w = w' := by
 have hb' : ¬ 1 < b := by omega
 go_enter Tryz.func220, Tryz.ntmps220
 go_wp2
 refine wp_loop_rounds 1 ?_
 rw [rounds_succ]
 go_wp2
 go_end0
 exact ⟨rfl, rfl⟩
def SomeI (w : World) (e : Ending) (w' : World) : Prop := ∃ n : Int, e = .returned (.int .i64 n) /\ w = w'
theorem len_0 (w : World) : Calls Tryz.prog 183 #[.int .u64 0] w (SomeI w) := by
 go_enter Tryz.func183, Tryz.ntmps183
 go_wp2
 go_ret
 exact ⟨_, rfl, rfl⟩
theorem pdq_str (v : Value) (b l : Int) (h0 : 0 <= b) (hb : b <= 1) (w : World) : Calls Tryz.prog 182 #[v, .int .i64 0, .int .i64 b, .int .i64 l] w fun e w' => e = .returned (.tuple #[]) /\ w = w' := by
 have hb' : b <= 12 := by omega
 go_enter Tryz.func182, Tryz.ntmps182
 go_wp2_with fail
 refine wp_loop_rounds 1 ?_
 rw [rounds_succ]
 go_wp2_with (go_at_call 220; refine (ins_str _ _ hb _).mono ?_; rintro e w1 ⟨rfl, rfl⟩)
 refine bodyPost_ret (results_none rfl _ _ _) rfl ?_
 exact ⟨rfl, rfl⟩
theorem sort_strs0 (w : World) : Calls Tryz.prog 131 #[.slice none 0 0] w fun e w' => e = .returned (.tuple #[]) /\ w = w' := by
 go_enter Tryz.func131, Tryz.ntmps131
 go_wp2_with (first | (go_at_call 183; refine (len_0 _).mono ?_; rintro e w1 ⟨l, rfl, rfl⟩) | (go_at_call 182; refine (pdq_str _ _ _ (by omega) (by omega) _).mono ?_; rintro e w1 ⟨rfl, rfl⟩))
 go_end0
 exact ⟨rfl, rfl⟩
def ptrV (c : Option Nat) : Value := .pointer (c.map fun f => ⟨f, 0, none⟩)
theorem fileR_inv : ∀ v y, fileR v = some y -> ∃ c, v = ptrV c := by
 intro v y h
 unfold fileR at h
 split at h
 ·exact ⟨none, rfl⟩
 ·rename_i f
  exact ⟨some f, rfl⟩
 ·cases h
theorem infoS : (Tryz.prog.info? 9).map (fun i => (i.zero, i.size, i.bytes)) = some (some (.string ⟨#[]⟩), 1, 16) := by kernel_rfl
set_option maxHeartbeats 4000000 in
theorem rising_any (ms n : Nat) (D0 : DataW Unit) (w : World) (hown : w.ownsMap Tryz.prog 9 fileR ms n D0) (hmax : Maps.size D0 <= maxLen) (hbytes : 16 * Maps.size D0 <= 140737488355328) :
  Calls Tryz.prog 69 #[.map (some ms)] w fun e w' => ∃ (v : Value) (ss : List (List UInt8)), e = .returned v /\ (ss.length = 0 -> v = .slice none 0 0) /\ ss.Perm (strKeys D0) /\
   w'.ownsRow w.heap.size 9 1 v ss.length ((ss.mergeSort (fun x y => decide (x <= y))).map encStr) /\ Below w.heap.size w w' := by
 obtain ⟨i0, hi, hz0, hz1, hz2⟩ := info_parts infoS
 have hbl := hown.lt
 go_enter Tryz.func69, Tryz.ntmps69
 go_wp2_with (first | (at_range; refine wpList_range_own _ rfl _ 122 rfl 9 160 lawS Tryz.underlying122 fileR ms n D0 rfl hown ?_; intro w0 hrg0 hg0 hs0) | fail)
 go_frame
 have hb0 : Below w.heap.size w w0 := (Below.refl _ _).grown hg0 (Nat.le_refl _) (fun k hk => by cases hk)
 have hsz0 : w.heap.size + 1 <= w0.heap.size := by omega
 clear hs0
 go_loopw [3] (fun v wr => ∃ (left : Lit -> Bool) (cnt : Nat) (ss : List (List UInt8)), wr.ranges Tryz.prog 9 fileR ms w.heap.size n D0 left cnt /\ ss.length + cnt <= Maps.size D0 /\
   wr.ownsRow (w.heap.size + 1) 9 1 v ss.length (ss.map encStr) /\ (ss.length = 0 -> v = .slice none 0 0) /\ Collected D0 left ss /\ Below w.heap.size w wr /\ w.heap.size + 1 <= wr.heap.size)
  (fun _ wr => wr.rangeLeft ms w.heap.size)
 case atStart =>
  exact ⟨_, _, [], hrg0, by simp, World.ownsRow_nil _ _ _ _, fun _ => rfl, Collected.start D0, hb0, hsz0⟩
 case round =>
  obtain ⟨left, cnt, ss, hrg, hcs, hrow, hnil, hC, hnx, hsz⟩ := hrel
  go_wp2_with (first
   | (at_next; refine wpList_next_ranges _ rfl _ rfl 9 lawS fileR encStr ptrV (fun key kl hk => by obtain ⟨x, hx, _⟩ := Maps.keyOf_str Tryz.underlying9 hk; exact ⟨x, hx⟩) fileR_inv ms w.heap.size n _ _ _ rfl hrg ?_ ?_)
   | go_in)
  ·intro hc0 hl0
   rcases hrow.2 with ⟨rfl, hn0⟩ | ⟨g, cap, cur, rfl, hbase, hb, h1, h2, h3, h4⟩
   ·have hss : ss = [] := List.length_eq_zero_iff.1 hn0
    subst hss
    have hp := hC.perm hown lawS Tryz.underlying9 hl0
    clear hrow hC hnil hl0 hown hrg
    go_wp2_with (first | (go_at_call 131; refine (sort_strs0 _).mono ?_; rintro e w1 ⟨rfl, rfl⟩) | fail)
    go_ret
    exact ⟨.slice none 0 0, [], rfl, fun _ => rfl, hp, by simpa using World.ownsRow_nil wr w.heap.size 9 1, hnx⟩
   ·have hH : Holds encStr wr g 0 ss.toArray := holds_of_block hb (by simpa using h4)
    have hgl : g < wr.heap.size := (Array.getElem?_eq_some_iff.1 hb).1
    have hc := Tryz.sort_strs g 0 cap ss wr hH hgl (by unfold maxLen at *; omega)
    have hp := hC.perm hown lawS Tryz.underlying9 hl0
    clear hrow hC hl0 hown hrg
    go_wp2_with (first | (go_at_call 131; refine hc.mono ?_; rintro e w' ⟨rfl, nn, os, rfl⟩) | fail)
    go_ret
    refine ⟨_, ss, rfl, fun h0 => hnil h0, hp, ?_, hnx.grown (grownBy_sorted _) hnx.size (fun j hj => by cases hj; omega)⟩
    have ho := ownsRow_sorted (base := w.heap.size) (ss := ss) (ts := ss.mergeSort fun x y => decide (x <= y)) (n := nn) (os := os) (by simp) (by omega) hb h1 h2 h3
    exact ho
  ·intro x c kl yd yp w2 cnt2 hkey hlk hv hat hrg2 hlt hg2 hs2 hen
   obtain ⟨x', ex, rfl, _⟩ := Maps.keyOf_str Tryz.underlying9 hkey
   obtain rfl : x = x' := encStr_inj ex
   have hrow2 := hrow.kept hg2 (Or.inr (row_ne_iter hrow hrg).symm)
   have hsz2 : w.heap.size + 1 <= w2.heap.size := Nat.le_trans hsz hg2.size
   clear hs2
   go_wp2_with (first
    | (at_builtin; (refine wpList_append_own _ rfl _ _ 90 rfl (w.heap.size + 1) 9 i0 (.string ⟨#[]⟩) 1 16 Tryz.underlying90 hi hz0 hz1 hz2 rfl (by decide) _ _ _ rfl (hrow2.alloc _) ⟨w2.heap.size, 0, none⟩ 1 1 [encStr x] rfl rfl (cell_one_new _ _ _) (by simp [Value.oneCell', encStr]) (by unfold maxLen at *; omega) (by omega) (by simp; omega) ?_; intro v' w3 hown' hg3 hnil3; go_frame))
    | fail)
   have hg3' : (w2.alloc (.cells #[encStr x] 9)).grownBy w3 u3.ownBlock := hg3
   clear hg3 hnil3 hen
   have hrg3 := (hrg2.alloc _).kept hg3' (row_ne_low hrow2 (by omega)) (row_ne_iter hrow2 hrg2)
   go_roundw
   case rel =>
    refine ⟨_, cnt2, ss ++ [x], hrg3, by simp; omega, by simpa using hown', fun h0 => by simp at h0, hC.step hlk hat, ?_, ?_⟩
    ·exact ((hnx.grown hg2 hnx.size (fun j hj => by cases hj; exact Nat.le_refl _)).alloc (by omega) _).grown hg3' (by simp; omega) (fun j hj => by have := (hrow2.lt j hj).1; omega)
    ·exact Nat.le_trans hsz2 (Nat.le_trans (by simp) hg3'.size)
   case measure => rw [hrg3.left_eq, hrg.left_eq]; exact hlt
end Go.Proofs.YtendlmdmbkcdnaaGreatDoor.ri
namespace Go.Proofs.YtendlmdmbkcdnaaGreatDoor.ri
open Go.RowKit Go.Maps Go.WideMaps Go.Sort oc gh dk
open Go.Lib (hid)
open Go.Proofs (encStr)
set_option maxRecDepth 100000
def lnm (x : Fil) : List UInt8 := x.name.data.toList
theorem nm_inj {a b : ByteArray} (h : a.data.toList = b.data.toList) : a = b := by
 apply ByteArray.ext
 apply Array.ext'
 exact h
theorem names_keys {w : World} {ms n : Nat} {S : DiskS} {q : Int} {fs : List Fil} {no L : Nat} (hown : w.ownsMap Tryz.prog 9 fileR ms n S.dir) (h : DkOk S q fs no L) : (fs.map lnm).Perm (strKeys S.dir) := by
 obtain ⟨es, hD, hpw, _⟩ := hown.entries lawS
 obtain ⟨es', hD', hko⟩ := hown.keysOf
 obtain rfl : es = es' := by rw [hD] at hD'; simpa using hD'
 have he := h.ent
 have hn := h.no_
 rw [hD] at he hn ⊢
 refine perm_strKeys hpw (fun p hp => ?_) ?_ fun x => ?_
 ·obtain ⟨v, hv⟩ := hko p hp
  obtain ⟨x, _, hx, _⟩ := Maps.keyOf_str Tryz.underlying9 hv
  exact ⟨x, hx⟩
 ·have h1 := h.names
  rw [List.nodup_iff_pairwise_ne, List.pairwise_map] at h1 ⊢
  exact h1.imp fun hne e => hne (nm_inj e)
 ·constructor
  ·intro hx
   obtain ⟨y, hy, rfl⟩ := List.mem_map.1 hx
   exact (he y hy).1.2
  ·intro hx
   by_cases hex : ∃ y ∈ fs, y.name = ⟨x.toArray⟩
   ·obtain ⟨y, hy, e⟩ := hex
    exact List.mem_map.2 ⟨y, hy, by rw [lnm, e]⟩
   ·have := (hn ⟨x.toArray⟩ fun y hy e => hex ⟨y, hy, e⟩).2
    simp only [Go.Proofs.YtendlmdmbkcdnaaGreatDoor.oc.key] at this
    rw [this] at hx
    cases hx
set_option maxHeartbeats 2000000 in
theorem dk_list (w : World) (G : Gh) (d : Nat) (q : Int) (fs : List Fil) (no L : Nat) (h : DK w G d q fs no L) (hl : fs.length <= 65536) :
  Calls Tryz.prog 31 #[.pointer (some ⟨d, 0, none⟩)] w fun e w' => ∃ (v : Value) (ss : List (List UInt8)), e = .returned (.tuple #[v, .int .i64 0]) /\ (ss.length = 0 -> v = .slice none 0 0) /\ ss.Perm (fs.map lnm) /\
   w'.ownsRow w.heap.size 9 1 v ss.length ((ss.mergeSort (fun x y => decide (x <= y))).map encStr) /\ Below w.heap.size w w' := by
 obtain ⟨S, ⟨ms, mf, vc, dvals, hV⟩, hk⟩ := h
 have hB := hV.1
 have hm := hV.2.2.1.1
 have hz := hk.size
 have HR := hid (rising_any ms S.lim S.dir w hm (by rw [hz]; unfold maxLen; omega) (by rw [hz]; omega))
 have HNK := hid (names_keys hm hk)
 have c0 : w.cell? ⟨d, 0, none⟩ = some (.map (some ms)) := (hB.cell 0).trans rfl
 have c6 : w.cell? ⟨d, 6, none⟩ = some (.bool false) := (hB.cell 6).trans (by rw [<- hk.dead]; rfl)
 clear hV hB hm hk hz
 go_enter Tryz.func31, Tryz.ntmps31
 go_wp2_with (first | (go_at_call 84; go_in) | (go_at_call 69; refine HR.out.mono ?_; rintro e w1 ⟨v, ss, rfl, h1, h2, h3, h4⟩; have H1 := hid h1; have H2 := hid h2; have H3 := hid h3; have H4 := hid h4; clear h1 h2 h3 h4) | fail)
 go_ret2
 exact ⟨v, ss, rfl, H1.out, H2.out.trans HNK.out.symm, H3.out, H4.out⟩
end Go.Proofs.YtendlmdmbkcdnaaGreatDoor.ri
namespace Go.Proofs.YtendlmdmbkcdnaaGreatDoor.tp
open Go.RowKit Go.Maps Go.WideMaps oc rc gh dk sg ma hi kd dd
set_option maxRecDepth 100000
def bodyR (l : List Rc) : List UInt8 := l.flatMap encR
theorem bodyR_app (l l' : List Rc) : bodyR (l ++ l') = bodyR l ++ bodyR l' := by simp [bodyR]
theorem bodyR_one (r : Rc) : bodyR [r] = encR r := by simp [bodyR]
def placed : Nat -> List Rc -> List Pl
 | _, [] => []
 | p, r :: l => ⟨r, (p : Int), ((encR r).length : Int)⟩ :: placed (p + (encR r).length) l
def waitsAt : Nat -> List Rc -> List Wt
 | _, [] => []
 | p, r :: l => ⟨r, (p : Int)⟩ :: waitsAt (p + (encR r).length) l
theorem placed_len : ∀ (p : Nat) (l : List Rc), (placed p l).length = l.length
 | _, [] => rfl
 | p, r :: l => by simp [placed, placed_len]
theorem waits_len : ∀ (p : Nat) (l : List Rc), (waitsAt p l).length = l.length
 | _, [] => rfl
 | p, r :: l => by simp [waitsAt, waits_len]
theorem placed_app : ∀ (p : Nat) (l l' : List Rc), placed p (l ++ l') = placed p l ++ placed (p + (bodyR l).length) l'
 | p, [], l' => by simp [placed, bodyR]
 | p, r :: l, l' => by simp [placed, placed_app, bodyR, Nat.add_assoc]
theorem waits_app : ∀ (p : Nat) (l l' : List Rc), waitsAt p (l ++ l') = waitsAt p l ++ waitsAt (p + (bodyR l).length) l'
 | p, [], l' => by simp [waitsAt, bodyR]
 | p, r :: l, l' => by simp [waitsAt, waits_app, bodyR, Nat.add_assoc]
theorem placed_get : ∀ (p : Nat) (l : List Rc) (k : Nat) (r : Rc), l[k]? = some r -> (placed p l)[k]? = some ⟨r, ((p + (bodyR (l.take k)).length : Nat) : Int), ((encR r).length : Int)⟩
 | p, [], k, r, h => by simp at h
 | p, x :: l, 0, r, h => by
  simp only [List.getElem?_cons_zero, Option.some.injEq] at h
  subst h
  simp [placed, bodyR]
 | p, x :: l, k + 1, r, h => by
  simp only [List.getElem?_cons_succ] at h
  simp only [placed, List.getElem?_cons_succ, placed_get _ l k r h, List.take_succ_cons, bodyR, List.flatMap_cons, List.length_append]
  simp [Nat.add_assoc]
theorem waits_get : ∀ (p : Nat) (l : List Rc) (k : Nat) (r : Rc), l[k]? = some r -> (waitsAt p l)[k]? = some ⟨r, ((p + (bodyR (l.take k)).length : Nat) : Int)⟩
 | p, [], k, r, h => by simp at h
 | p, x :: l, 0, r, h => by
  simp only [List.getElem?_cons_zero, Option.some.injEq] at h
  subst h
  simp [waitsAt, bodyR]
 | p, x :: l, k + 1, r, h => by
  simp only [List.getElem?_cons_succ] at h
  simp only [waitsAt, List.getElem?_cons_succ, waits_get _ l k r h, List.take_succ_cons, bodyR, List.flatMap_cons, List.length_append]
  simp [Nat.add_assoc]
structure Old where
 num : Nat
 base : Nat
 recs : List Rc
structure TS where
 i : Nat
 lim : Nat
 ret : Nat
 man : ManS
 old : List Old
 cur : Nat
 base : Nat
 rs : List Rc
 wr : List Rc
 DC : DataW Unit
 DA : DataW Unit
 T : KT
 clock : Nat
 en : Nat
def segB (i n b : Nat) (l : List Rc) : List UInt8 := headN i n b ++ bodyR l
def TS.seg (X : TS) : SegS := ⟨X.lim, ⟨X.i, X.cur, X.base, (21 : Int) + ((bodyR (X.rs ++ X.wr)).length : Nat), (X.rs ++ X.wr).length, (X.base : Int) - 1 + ((X.rs ++ X.wr).length : Nat), false⟩, extN 0 (segB X.i X.cur X.base (X.rs ++ X.wr)), (X.rs ++ X.wr).length⟩
def TS.rows (X : TS) : List (Nat × List Rc) := X.old.map (fun o => (o.num, o.recs)) ++ [(X.cur, X.rs)]
def TS.all (X : TS) : List Rc := X.old.flatMap (·.recs) ++ X.rs
def TS.wpos (X : TS) : Nat := 21 + (bodyR X.rs).length
def RowAt (w : World) (G : Gh) (τ : Nat) (CD : DataW Unit) (s : Nat) (l : List Rc) : Prop :=
 ∃ o A cp, slV o = .slice A l.length cp /\ CD.atKey (.int .i64 (s : Int)) .nil = slO o /\ RowR w G 86 9 (.slice A l.length cp) l.length ((placed 21 l).flatMap plC) (some (τ, .row s))
structure Pts where
 c : Tc
 g : Nat
 tm : Nat
 tn : Nat
 am : Nat
 an : Nat
 cn : Nat
 CD : DataW Unit
structure TopG (w : World) (G : Gh) (τ t d : Nat) (X : TS) (q : Int) (fs : List Fil) (no L : Nat) (p : Pts) (T : KT) (R : List (Nat × List Rc)) (m : Nat) : Prop where
 top : BlkR w G t 110 p.c.cells (some (τ, .top))
 ed : p.c.d = d
 eid : p.c.id = (X.i : Int)
 elim : p.c.lim = (X.lim : Int)
 eret : p.c.ret = (X.ret : Int)
 eman : p.c.man = X.man
 eseg : p.c.seg = some ⟨p.g, 0, none⟩
 ewn : p.c.wn = X.wr.length
 enext : p.c.next = (X.en : Int)
 eclock : p.c.clock = (X.clock : Int)
 enseg : p.c.nextSeg = ((X.cur + 1 : Nat) : Int)
 egone : p.c.gone = false
 segs : IntsAt w p.c.sA X.man.segs
 cold : Cold w G p.c.sA
 seg : SegAt w G τ p.g d X.seg
 dir : DirR w G τ p.c.dir T
 tab : TabR w G τ .tab .tabm p.c.tc p.tm p.tn X.DC
 all : TabR w G τ .all .allm p.c.ta p.am p.an X.DA
 waits : RowR w G 135 8 (.slice p.c.wA p.c.wn p.c.wc) p.c.wn ((waitsAt X.wpos X.wr).flatMap wtC) (some (τ, .waits))
 cached : MapR w G 3 slR p.c.cached p.cn p.CD (some (τ, .cached))
 rows : ∀ s l, (s, l) ∈ R -> RowAt w G τ p.CD s l
 dk : DK w G d q fs no L
 fin : Fin G w
 tg : TabG w G
 cn1 : p.cn <= m
 an1 : p.an <= X.en + X.wr.length
 tnm : p.c.ta ≠ p.am
abbrev TopV (w : World) (G : Gh) (τ t d : Nat) (X : TS) (q : Int) (fs : List Fil) (no L : Nat) (p : Pts) : Prop := TopG w G τ t d X q fs no L p X.T X.rows (X.en + X.cur)
def TopAt (w : World) (G : Gh) (τ t d : Nat) (X : TS) (q : Int) (fs : List Fil) (no L : Nat) : Prop := ∃ p, TopV w G τ t d X q fs no L p
section
variable {C : Tag -> Role -> Prop} {w w' : World} {G G' : Gh} {τ t d : Nat} {X : TS} {q : Int} {fs : List Fil} {no L : Nat} {p : Pts} {T : KT} {R : List (Nat × List Rc)} {m : Nat}
theorem RowAt.keep {CD : DataW Unit} {s : Nat} {l : List Rc} (h : RowAt w G τ CD s l) (hF : Fx C G G' w w') (hC : ¬ C .other (some (τ, .row s))) : RowAt w' G' τ CD s l := by
 obtain ⟨o, A, cp, h1, h2, h3⟩ := h
 exact ⟨o, A, cp, h1, h2, h3.keep hF hC⟩
theorem TopG.keep (h : TopG w G τ t d X q fs no L p T R m) (hF : Fx C G G' w w') (hf : Fin G' w') (hn : ∀ i, w.heap.size <= i -> G'.ow i = .other) (h1 : ∀ t r, C t r -> t = .other) (h2 : ∀ pp, ¬ C .other (some (τ, pp))) (h3 : ¬ C .other none) : TopG w' G' τ t d X q fs no L p T R m :=
 { h with
  top := h.top.keep hF (h2 _)
  segs := ints_keep h.segs h.cold hF h3
  cold := h.cold.keep hF
  seg := h.seg.keep hF (h2 _) (h2 _) (h2 _)
  dir := h.dir.keep hF (h2 _) h3
  tab := h.tab.keep hF (h2 _) (h2 _)
  all := h.all.keep hF (h2 _) (h2 _)
  waits := h.waits.keep hF (h2 _)
  cached := h.cached.keep hF (h2 _)
  rows := fun s l hs => (h.rows s l hs).keep hF (h2 _)
  dk := h.dk.keep hF h1 hn
  fin := hf
  tg := h.tg.keep hF h3 }
theorem TopG.below (h : TopG w G τ t d X q fs no L p T R m) (hb : Below w.heap.size w w') : TopG w' G τ t d X q fs no L p T R m :=
 h.keep (C := CN) (Fx.below hb) (h.fin.more hb.size) h.fin.ow (fun _ _ x => x.elim) (fun _ x => x) (fun x => x)
end
end Go.Proofs.YtendlmdmbkcdnaaGreatDoor.tp
namespace Go.Proofs.YtendlmdmbkcdnaaGreatDoor.tp
open Go.RowKit Go.Maps Go.WideMaps oc rc gh dk sg ma hi kd dd
open Go.Lib (hid)
set_option maxRecDepth 100000
structure RowP where
 num : Nat
 pls : List Pl
 A : Option Addr
 cp : Nat
structure EachR (W : World) (t cached : Nat) (sA : Option Addr) (sc : Nat) (rows : List RowP) : Prop where
 c9 : W.cell? ⟨t, 9, none⟩ = some (.slice sA rows.length sc)
 c20 : W.cell? ⟨t, 20, none⟩ = some (.map (some cached))
 segs : IntsAt W sA (rows.map (·.num))
 rows : ∃ n CD, W.ownsMap Tryz.prog 3 slR cached n CD /\ ∀ x ∈ rows, ∃ o, slV o = .slice x.A x.pls.length x.cp /\ CD.atKey (.int .i64 (x.num : Int)) .nil = slO o /\ PlsAt W x.A x.pls
def allP (rows : List RowP) : List Pl := rows.flatMap (·.pls)
theorem allP_take {rows : List RowP} {j : Nat} {x : RowP} (h : rows[j]? = some x) : allP (rows.take (j + 1)) = allP (rows.take j) ++ x.pls := by
 rw [Go.Proofs.YtendlmdmbkcdnaaGreatDoor.ma.take_succ_some h]
 simp [allP]
theorem allP_pre {rows : List RowP} {j m : Nat} {x : RowP} (h : rows[j]? = some x) : allP (rows.take j) ++ x.pls.take m <+: allP rows := by
 have h1 : allP (rows.take j) ++ x.pls.take m <+: allP (rows.take (j + 1)) := by
  rw [allP_take h]
  exact (List.prefix_append_right_inj _).2 (List.take_prefix _ _)
 refine h1.trans ?_
 conv => rhs; rw [<- List.take_append_drop (j + 1) rows]
 simp only [allP, List.flatMap_append]
 exact List.prefix_append _ _
set_option maxHeartbeats 8000000 in
theorem each_any (w : World) (t cached : Nat) (sA : Option Addr) (sc : Nat) (rows : List RowP) (fn : FuncId) (cap : Array Value) (J Jx : List Pl -> World -> Prop)
  (hfn : ∀ (args : Array Value) (W : World), (callFunc fn args).run Tryz.prog W = .ok (.enter fn args) W)
  (hr : ∀ x ∈ rows, x.num <= 1073741824 /\ x.pls.length <= 65536) (hrl : rows.length <= 64)
  (hR : ∀ pre W, J pre W -> EachR W t cached sA sc rows) (hA : ∀ pre W o, J pre W -> J pre (W.alloc o))
  (hC : ∀ pre x W, J pre W -> pre ++ [x] <+: allP rows -> Calls Tryz.prog fn (#[.agg (plC x).toArray] ++ cap) W fun e W' => (e = .returned (.bool true) /\ J (pre ++ [x]) W') \/ (e = .returned (.bool false) /\ Jx (pre ++ [x]) W'))
  (h0 : J [] w) :
  Calls Tryz.prog 56 #[.pointer (some ⟨t, 0, none⟩), .func (.func fn) #[] cap] w fun e w' => e = .returned (.tuple #[]) /\ (J (allP rows) w' \/ ∃ pre, pre <+: allP rows /\ Jx pre w') := by
 have HR := hid hR
 have HA := hid hA
 have HC := hid hC
 have HJ0 := hid h0
 have HRR := hid hr
 have HRL := hid hrl
 have HFN := hid hfn
 have c9 : w.cell? ⟨t, 9, none⟩ = some (.slice sA rows.length sc) := (hR _ _ h0).c9
 clear hR hA hC h0 hr hrl hfn
 go_enter Tryz.func56, Tryz.ntmps56
 go_wp2_with fail
 clear c9
 go_loopw [5, 14] (fun _ i wr => ∃ k : Nat, k <= rows.length /\ i = .int .i64 (k : Int) /\ Hid (J (allP (rows.take k)) wr)) (fun _ i _ => rows.length - (intOf i).toNat)
 case atStart => exact ⟨0, Nat.zero_le _, rfl, by simpa [allP] using HJ0⟩
 case round =>
  obtain ⟨k, hk, rfl, HJ⟩ := hrel
  by_cases hlt : k < rows.length
  ·obtain ⟨x, hx⟩ : ∃ x, rows[k]? = some x := ⟨_, List.getElem?_eq_getElem hlt⟩
   have HX := hid hx
   have hxm : x ∈ rows := List.mem_of_getElem? hx
   have HXM := hid hxm
   have hE := HR.out _ wr HJ.out
   obtain ⟨b, off, hsA, hb, hcell⟩ := hE.segs (by simpa using (by omega : 0 < rows.length))
   obtain ⟨nn, CD, hmap, hrow⟩ := hE.rows
   obtain ⟨o, ho, hat, hpl⟩ := hrow x hxm
   have hlk := look_row hmap (s := (x.num : Int)) (by omega) (by have := (HRR.out x hxm).1; omega) hat
   rw [ho] at hlk
   have c20 := hE.c20
   have ck := hcell k x.num (by simp [hx])
   have HSA := hid hsA
   have hA1 : wr.cell? ⟨b, off + k, none⟩ = some (.int .i64 (x.num : Int)) := ck
   have i14 : IntKind.i64.wrap ((k : Int) + 1) = (k : Int) + 1 := by have := HRL.out; rw [IntKind.wrap_i64]; omega
   subst hsA
   clear hE hmap hrow ho hat hpl hcell ck hx hxm hb HSA
   go_wp2_with fail
   clear hlk c20 hA1
   go_loopw [7, 25] (fun _ i wr2 => ∃ m : Nat, m <= x.pls.length /\ i = .int .i64 (m : Int) /\ Hid (J (allP (rows.take k) ++ x.pls.take m) wr2)) (fun _ i _ => x.pls.length - (intOf i).toNat)
   case atStart => exact ⟨0, Nat.zero_le _, rfl, by simpa using HJ⟩
   case round =>
    obtain ⟨m, hm, rfl, HJ2⟩ := hrel
    by_cases hlt2 : m < x.pls.length
    ·obtain ⟨y, hy⟩ : ∃ y, x.pls[m]? = some y := ⟨_, List.getElem?_eq_getElem hlt2⟩
     have HY := hid hy
     obtain ⟨n2, CD2, hmap2, hrow2⟩ := (HR.out _ wr HJ2.out).rows
     obtain ⟨o2, ho2, hat2, hpl2⟩ := hrow2 x HXM.out
     obtain ⟨b2, hxA, hb2, hc2⟩ := hpl2 (by omega)
     have e0 : wr.cell? ⟨b2, m * 9, none⟩ = some (.int .i64 y.r.kind) := hc2 m y 0 _ hy rfl
     have e1 := hc2 m y 1 _ hy rfl
     have e2 := hc2 m y 2 _ hy rfl
     have e3 := hc2 m y 3 _ hy rfl
     have e4 := hc2 m y 4 _ hy rfl
     have e5 := hc2 m y 5 _ hy rfl
     have e6 := hc2 m y 6 _ hy rfl
     have e7 := hc2 m y 7 _ hy rfl
     have e8 := hc2 m y 8 _ hy rfl
     have HPRE : Hid (allP (rows.take k) ++ x.pls.take m ++ [y] <+: allP rows) := hid (by
      rw [List.append_assoc, <- Go.Proofs.YtendlmdmbkcdnaaGreatDoor.ma.take_succ_some hy]
      exact allP_pre HX.out)
     have HTK : Hid (allP (rows.take k) ++ x.pls.take (m + 1) = allP (rows.take k) ++ x.pls.take m ++ [y]) := hid (by rw [List.append_assoc, <- Go.Proofs.YtendlmdmbkcdnaaGreatDoor.ma.take_succ_some hy])
     obtain ⟨⟨x0, x1, x2, x3, x4, x5, x6⟩, x7, x8⟩ := y
     dsimp only at e0 e1 e2 e3 e4 e5 e6 e7 e8
     have HCC := hid (fun (W : World) (hW : J (allP (rows.take k) ++ x.pls.take m) W) => HC.out _ _ W hW HPRE.out)
     have HJA := hid (fun o => HA.out _ _ o HJ2.out)
     have i25 : IntKind.i64.wrap ((m : Int) + 1) = (m : Int) + 1 := by have := (HRR.out x HXM.out).2; rw [IntKind.wrap_i64]; omega
     have hfn := HFN.out
     rw [hxA]
     clear hmap2 hrow2 ho2 hat2 hpl2 hb2 hc2 hy hxA
     go_wp2_with fail
     refine (HCC.out _ (HJA.out _)).mono ?_
     clear e0 e1 e2 e3 e4 e5 e6 e7 e8 hfn HJA HCC
     rintro e w2 (⟨rfl, hj⟩ | ⟨rfl, hj⟩)
     ·have HJ4 : Hid (J (allP (rows.take k) ++ x.pls.take (m + 1)) w2) := by rw [HTK.out]; exact hid hj
      clear hj
      go_wp2_with fail
      go_roundw
      case rel => exact ⟨m + 1, by omega, by go_num, HJ4⟩
      case measure => simp [intOf]; omega
     ·have HJ4 := hid hj
      clear hj
      go_wp2_with fail
      refine bodyPost_ret (results_none rfl _ _ _) rfl ?_
      exact ⟨rfl, Or.inr ⟨_, HPRE.out, HJ4.out⟩⟩
    ·obtain rfl : m = x.pls.length := by omega
     have HJ3 : Hid (J (allP (rows.take (k + 1))) wr) := hid (by
      have := HJ2.out
      rw [List.take_length] at this
      rw [allP_take HX.out]
      exact this)
     go_wp2_with fail
     go_roundw
     case rel => exact ⟨k + 1, by omega, by go_num, HJ3⟩
     case measure => simp [intOf]; omega
  ·obtain rfl : k = rows.length := by omega
   go_wp2_with fail
   go_end0
   refine ⟨rfl, Or.inl ?_⟩
   have := HJ.out
   rwa [List.take_length] at this
theorem rowsP_of {w : World} {G : Gh} {τ : Nat} {CD : DataW Unit} : ∀ l : List (Nat × List Rc), (∀ s r, (s, r) ∈ l -> RowAt w G τ CD s r) ->
  ∃ ps : List RowP, ps.map (fun x => (x.num, x.pls)) = l.map (fun y => (y.1, placed 21 y.2)) /\ ∀ x ∈ ps, ∃ o, slV o = .slice x.A x.pls.length x.cp /\ CD.atKey (.int .i64 (x.num : Int)) .nil = slO o /\ PlsAt w x.A x.pls
 | [], _ => ⟨[], rfl, fun x hx => by cases hx⟩
 | (s, r) :: l, h => by
  obtain ⟨ps, h1, h2⟩ := rowsP_of l fun s' r' hm => h s' r' (List.mem_cons_of_mem _ hm)
  obtain ⟨o, A, cp, e1, e2, e3⟩ := h s r List.mem_cons_self
  refine ⟨⟨s, placed 21 r, A, cp⟩ :: ps, by simp [h1], fun x hx => ?_⟩
  rcases List.mem_cons.1 hx with rfl | hx
  ·exact ⟨o, by rw [placed_len]; exact e1, e2, PlsAt.of_own (by exact e3.1)⟩
  ·exact h2 x hx
structure RowsOk (X : TS) : Prop where
 segs : X.man.segs = X.rows.map (·.1)
 num : ∀ x ∈ X.rows, x.1 <= 1073741824 /\ x.2.length <= 65536
 len : X.rows.length <= 64
theorem placed_r : ∀ (p : Nat) (l : List Rc), (placed p l).map (·.r) = l
 | _, [] => rfl
 | p, r :: l => by simp [placed, placed_r]
theorem allP_r {ps : List RowP} {l : List (Nat × List Rc)} (h : ps.map (fun x => (x.num, x.pls)) = l.map (fun y => (y.1, placed 21 y.2))) : (allP ps).map (·.r) = l.flatMap (·.2) := by
 have h2 : ps.map (·.pls) = l.map (fun y => placed 21 y.2) := by
  have := congrArg (List.map Prod.snd) h
  simpa [List.map_map, Function.comp_def] using this
 rw [allP, List.flatMap_def, h2, List.map_flatten, List.map_map, List.flatMap_def]
 congr 1
 exact List.map_congr_left fun y _ => placed_r 21 y.2
theorem rows_all (X : TS) : X.rows.flatMap (·.2) = X.all := by
 simp only [TS.rows, TS.all, List.flatMap_append, List.flatMap_cons, List.flatMap_nil, List.append_nil, List.flatMap_map]
theorem all_len {ps : List RowP} (hr : ∀ x ∈ ps, x.pls.length <= 65536) : (allP ps).length <= 65536 * ps.length := by
 induction ps with
 | nil => simp [allP]
 | cons x ps ih =>
  have h1 := ih fun y hy => hr y (List.mem_cons_of_mem _ hy)
  have h2 := hr x List.mem_cons_self
  simp only [allP, List.flatMap_cons, List.length_append, List.length_cons] at h1 ⊢
  omega
theorem eachR_of {w W : World} {G : Gh} {τ t d : Nat} {X : TS} {q : Int} {fs : List Fil} {no L : Nat} {p : Pts} (h : TopV w G τ t d X q fs no L p) (hX : RowsOk X) (hb : Below w.heap.size w W) {ps : List RowP}
  (h1 : ps.map (fun x => (x.num, x.pls)) = X.rows.map (fun y => (y.1, placed 21 y.2))) (h2 : ∀ x ∈ ps, ∃ o, slV o = .slice x.A x.pls.length x.cp /\ p.CD.atKey (.int .i64 (x.num : Int)) .nil = slO o /\ PlsAt w x.A x.pls) : EachR W t p.c.cached p.c.sA p.c.sc ps := by
 have hW := h.below hb
 have hn : ps.map (·.num) = X.man.segs := by
  have := congrArg (List.map Prod.fst) h1
  rw [hX.segs]
  simpa [List.map_map, Function.comp_def] using this
 have hl : ps.length = X.man.segs.length := by rw [<- hn]; simp
 refine ⟨(hW.top.cell 9).trans (by rw [hl, <- h.eman]; rfl), (hW.top.cell 20).trans rfl, by rw [hn]; exact hW.segs, p.cn, p.CD, hW.cached.1, fun x hx => ?_⟩
 obtain ⟨o, e1, e2, e3⟩ := h2 x hx
 exact ⟨o, e1, e2, e3.below hb⟩
def RecJ (w : World) (N : Nat) (pre : List Pl) (W : World) : Prop := pre.length <= N /\ ∃ A c, Blk W w.heap.size 31 #[.slice A pre.length c] /\ W.ownsRow (w.heap.size + 1) 47 7 (.slice A pre.length c) pre.length ((pre.map (·.r)).flatMap rcC) /\ Below w.heap.size w W
theorem RecJ.alloc {w : World} {N : Nat} {pre : List Pl} {W : World} (h : RecJ w N pre W) (o : Obj) : RecJ w N pre (W.alloc o) := by
 obtain ⟨h0, A, c, h1, h2, h3⟩ := h
 exact ⟨h0, A, c, h1.alloc _, h2.alloc _, h3.alloc h3.size _⟩
set_option maxHeartbeats 4000000 in
theorem records_any (w : World) (G : Gh) (τ t d : Nat) (X : TS) (q : Int) (fs : List Fil) (no L : Nat) (h : TopAt w G τ t d X q fs no L) (hX : RowsOk X) :
  Calls Tryz.prog 17 #[.pointer (some ⟨t, 0, none⟩)] w fun e w' => ∃ A c, e = .returned (.tuple #[.slice A X.all.length c, .int .i64 0]) /\ w'.ownsRow w.heap.size 47 7 (.slice A X.all.length c) X.all.length (X.all.flatMap rcC) /\ Below w.heap.size w w' := by
 obtain ⟨p, h⟩ := h
 obtain ⟨ps, h1, h2⟩ := rowsP_of X.rows h.rows
 have hbd : ∀ x ∈ ps, x.num <= 1073741824 /\ x.pls.length <= 65536 := fun x hx => by
  have : (x.num, x.pls) ∈ X.rows.map (fun y => (y.1, placed 21 y.2)) := by rw [<- h1]; exact List.mem_map.2 ⟨x, hx, rfl⟩
  obtain ⟨y, hy, e⟩ := List.mem_map.1 this
  injection e with e1 e2
  have := hX.num y hy
  rw [<- e1, <- e2, placed_len]
  exact this
 have hps : ps.length <= 64 := by
  have := congrArg List.length h1
  simp only [List.length_map] at this
  have := hX.len
  omega
 have htot : (allP ps).length <= 4194304 := by
  have := all_len fun x hx => (hbd x hx).2
  omega
 have hall : (allP ps).map (·.r) = X.all := by rw [allP_r h1, rows_all]
 have HTV := hid h
 have HXX := hid hX
 have H1 := hid h1
 have H2 := hid h2
 have HBD := hid hbd
 have HPS := hid hps
 have HTOT := hid htot
 have HALL := hid hall
 have HU := hid (fun W (hb : Below w.heap.size w W) => usable_ok W t p.c ((h.below hb).top.1) h.egone)
 clear h hX h1 h2 hbd hps htot hall
 go_enter Tryz.func17, Tryz.ntmps17
 go_wp2_with (first
  | (go_at_call 55; refine (HU.out w (Below.refl _ _)).mono ?_; rintro e w1 ⟨rfl, hw1⟩; subst hw1)
  | (go_at_call 56; refine (each_any _ t p.c.cached p.c.sA p.c.sc ps 57 #[.pointer (some ⟨w1.heap.size, 0, none⟩)] (RecJ w1 (allP ps).length) (fun _ _ => False) (fun args W => Tryz.call57 args W) HBD.out HPS.out (fun pre W hj => by obtain ⟨_, A, c, _, _, hb⟩ := hj; exact eachR_of HTV.out HXX.out hb H1.out H2.out) (fun pre W o hj => hj.alloc o) (fun pre x W hj hpre => ?c1) ⟨Nat.zero_le _, none, 0, Blk.new _ _ _, World.ownsRow_nil _ _ _ _, (Below.refl _ _).alloc (Nat.le_refl _) _⟩).mono ?_)
  | fail)
 case c1 =>
  obtain ⟨_, A, c, hb, ho, hbl⟩ := hj
  have hle : pre.length + 1 <= (allP ps).length := by
   have := hpre.length_le
   simpa using this
  have := rec1_any W (w1.heap.size + 1) w1.heap.size A c (pre.map (·.r)) x (by simpa using hb) (by simpa using ho) (by omega) (by have := hb.lt; omega) (by have := HTOT.out; simp; omega)
  refine this.mono ?_
  rintro e W' ⟨rfl, A', c', h3, h4, h5⟩
  refine Or.inl ⟨rfl, by simpa using hle, A', c', by simpa using h3, ?_, hbl.trans h5⟩
  simpa using h4
 rintro e w2 ⟨rfl, hj | ⟨_, _, hf⟩⟩
 rotate_left
 ·exact hf.elim
 obtain ⟨_, A, c, hb, ho, hbl⟩ := hj
 have hlen : (allP ps).length = X.all.length := by rw [<- HALL.out]; simp
 rw [HALL.out, hlen] at ho
 rw [hlen] at hb
 have HB2 := hid hb
 have HO2 := hid ho
 have HBL := hid hbl
 have c0 : w2.cell? ⟨w1.heap.size, 0, none⟩ = some (.slice A X.all.length c) := (hb.cell 0).trans rfl
 have ct : w2.cell? ⟨t, 0, none⟩ = some (.pointer (some ⟨d, 0, none⟩)) := ((HTV.out.below hbl).top.cell 0).trans (by rw [<- HTV.out.ed]; rfl)
 have HD := hid (dk_dead w2 G d q fs no L (HTV.out.dk.below hbl))
 clear hb ho hbl hlen
 by_cases hz : 0 < X.all.length
 ·have g0 : decide ((0 : Int) < (X.all.length : Int)) = true := decide_eq_true (by omega)
  go_wp2_with (first
   | (go_at_call 58; refine HD.out.mono ?_; rintro e w3 ⟨rfl, hw3⟩; rw [hw3]; clear hw3)
   | fail)
  go_ret2
  exact ⟨A, c, rfl, own_less HO2.out (by omega), HBL.out⟩
 ·have g0 : decide ((0 : Int) < (X.all.length : Int)) = false := decide_eq_false (by omega)
  go_wp2_with fail
  go_ret2
  exact ⟨A, c, rfl, own_less HO2.out (by omega), HBL.out⟩
end Go.Proofs.YtendlmdmbkcdnaaGreatDoor.tp
