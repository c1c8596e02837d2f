/-
  Texts of the proof joined by a program: Osg Osh Osi Osj Osk Osl Osm Osn Oso.
-/
import Derived.Test.YtendlmdmbkcdnaaGreatDoorVb
import Derived.BigQuiet
import Derived.Deep.QuietTactic
import Derived.IntWalk
import Derived.OwnWalk
import Derived.Deep.RegionWith
set_option linter.unusedSimpArgs false
set_option linter.unusedVariables false
namespace Go.Proofs.YtendlmdmbkcdnaaGreatDoor.oc
open Go.RowKit Go.Maps Go.WideMaps
open Go.Lib (hid)
set_option maxRecDepth 100000
def CD (t : Tag) : Prop := t ≠ .other /\ t ≠ .dat
def DOut (w : World) (ow : Nat -> Tag) (d : Nat) (S : DiskS) (v : Value) (e : Ending) (w' : World) : Prop := ∃ ow', e = .returned v /\ DiskAt w' ow' d S /\ Fr CD ow ow' w w'
def updF (file : Nat -> Option FileS) (f : Nat) (F : FileS) : Nat -> Option FileS := fun g => if g = f then some F else file g
theorem disk_close {w w1 : World} {ow ow1 : Nat -> Tag} {d f : Nat} {S : DiskS} {F : FileS} {ms mf : Nat} {vc : Value} {dvals : List Value} (h : DiskV w ow d S ms mf vc dvals) (hF : Fr (CFile f) ow ow1 w w1) (hA : FileAt w1 ow1 f F) (hnew : ∀ i, w1.heap.size <= i -> ow1 i = .other) :
  DiskV w1 ow1 d { S with file := updF S.file f F } ms mf vc dvals := by
 obtain ⟨hB, ht, ⟨hm, hmt⟩, ⟨hf, hft⟩, ⟨hc, hct⟩, hch, hfs, _, hl1, hl2⟩ := h
 have hn : ∀ t : Tag, t ≠ .file f -> t ≠ .seen f -> t ≠ .safe f -> t ≠ .chg f -> ¬ CFile f t := fun t h1 h2 h3 h4 h => by
  rcases h with h | h | h | h
  ·exact h1 h
  ·exact h2 h
  ·exact h3 h
  ·exact h4 h
 have hx : ∀ t : Tag, (t = .disk \/ t = .mseen \/ t = .msafe \/ t = .dchg \/ t = .dat) -> ¬ CFile f t := fun t h => by rcases h with rfl | rfl | rfl | rfl | rfl <;> exact hn _ (by intro e; cases e) (by intro e; cases e) (by intro e; cases e) (by intro e; cases e)
 refine ⟨blk_keepH hB (hF.keep _ hB.lt (by rw [ht]; exact hx _ (by simp))), by rw [hF.old _ hB.lt]; exact ht, ⟨map_keepH hm (hF.keep _ hm.lt (by rw [hmt]; exact hx _ (by simp))), by rw [hF.old _ hm.lt]; exact hmt⟩, ⟨map_keepH hf (hF.keep _ hf.lt (by rw [hft]; exact hx _ (by simp))), by rw [hF.old _ hf.lt]; exact hft⟩, ⟨own_keepH hc fun g hg => hF.keep _ (hc.lt g hg).2 (by rw [hct g hg]; exact hx _ (by simp)), fun g hg => by rw [hF.old _ (hc.lt g hg).2]; exact hct g hg⟩, hch, fun f' F' h' => ?_, hnew, hl1, hl2⟩
 unfold updF at h'
 by_cases e : f' = f
 ·subst e
  simp only [if_true] at h'
  injection h' with h'
  subst h'
  exact hA
 ·simp only [e, if_false] at h'
  exact (hfs f' F' h').keep hF (hx _ (by simp)) (hn _ (by intro x; injection x with x; exact e x) (by intro x; cases x) (by intro x; cases x) (by intro x; cases x)) (hn _ (by intro x; cases x) (by intro x; injection x with x; exact e x) (by intro x; cases x) (by intro x; cases x)) (hn _ (by intro x; cases x) (by intro x; cases x) (by intro x; injection x with x; exact e x) (by intro x; cases x)) (hn _ (by intro x; cases x) (by intro x; cases x) (by intro x; cases x) (by intro x; injection x with x; exact e x))
theorem disk_set {w : World} {ow : Nat -> Tag} {d i : Nat} {S S' : DiskS} {ms mf : Nat} {vc v : Value} {dvals : List Value} (h : DiskV w ow d S ms mf vc dvals)
  (hcs : #[Value.map (some ms), .map (some mf), vc, .int .i64 S.quota, .int .i64 S.used, .int .i64 S.fuse, .bool S.dead, .int .i64 S.ops].setIfInBounds i v = #[.map (some ms), .map (some mf), vc, .int .i64 S'.quota, .int .i64 S'.used, .int .i64 S'.fuse, .bool S'.dead, .int .i64 S'.ops])
  (h1 : S'.dir = S.dir) (h2 : S'.safe = S.safe) (h3 : S'.dchs = S.dchs) (h4 : S'.file = S.file) (h5 : S'.lim = S.lim) :
  DiskV (w.setCell ⟨d, i, none⟩ v) ow d S' ms mf vc dvals /\ Fr (fun t => t = .disk) ow ow w (w.setCell ⟨d, i, none⟩ v) := by
 have hk : ∀ t, ow t ≠ .disk -> (w.setCell ⟨d, i, none⟩ v).heap[t]? = w.heap[t]? := fun t ht => Below.heap_setCell _ _ _ _ (by rintro rfl; exact ht h.2.1)
 have hFr : Fr (fun t => t = .disk) ow ow w (w.setCell ⟨d, i, none⟩ v) := ⟨rfl, rfl, rfl, by rw [size_set]; exact Nat.le_refl _, fun j _ hC => hk j hC, fun _ _ => rfl, fun j hj => Or.inl (h.new j hj)⟩
 have hnew := h.new
 obtain ⟨hB, ht, ⟨hm, hmt⟩, ⟨hf, hft⟩, ⟨hc, hct⟩, hch, hfs, _, hl1, hl2⟩ := h
 refine ⟨⟨?_, ht, ⟨?_, hmt⟩, ⟨?_, hft⟩, ⟨?_, hct⟩, by rw [h3]; exact hch, fun f F hF => ?_, fun j hj => hnew j (by rw [size_set] at hj; exact hj), by rw [h3, h5]; exact hl1, by rw [h5]; exact hl2⟩, hFr⟩
 ·have := hB.set_ i v
  rwa [hcs] at this
 ·rw [h1, h5]; exact map_keepH hm (hk _ (by rw [hmt]; intro e; cases e))
 ·rw [h2, h5]; exact map_keepH hf (hk _ (by rw [hft]; intro e; cases e))
 ·rw [h3]; exact own_keepH hc fun g hg => hk _ (by rw [hct g hg]; intro e; cases e)
 ·rw [h4] at hF
  exact (hfs f F hF).keep hFr (by intro e; cases e) (by intro e; cases e) (by intro e; cases e) (by intro e; cases e) (by intro e; cases e)
theorem cd_file (f : Nat) : ∀ t, CFile f t -> CD t := by
 intro t h
 rcases h with rfl | rfl | rfl | rfl <;> exact ⟨(by intro e; cases e), (by intro e; cases e)⟩
theorem cd_disk : ∀ t : Tag, t = .disk -> CD t := by
 rintro t rfl
 exact ⟨(by intro e; cases e), (by intro e; cases e)⟩
set_option maxHeartbeats 4000000 in
theorem sync_any (w : World) (ow : Nat -> Tag) (d f : Nat) (S : DiskS) (F : FileS) (h : DiskAt w ow d S) (hd : S.dead = false) (hfu : S.fuse = -1) (hop : 0 <= S.ops) (hop2 : S.ops <= 1099511627776) (s : ByteArray) (hs : GoodN s) (he : EntF S.dir s f) (hF : S.file f = some F) (hn : ∀ k, (appAll (F.chs.take k) F.safe).length <= 1073741824) (hc : F.chs.length <= 1073741824) :
  Calls Tryz.prog 140 #[.pointer (some ⟨d, 0, none⟩), .string s] w (DOut w ow d { S with ops := S.ops + 1, file := updF S.file f { F with safe := appAll F.chs F.safe, chs := [] } } (.int .i64 0)) := by
 have HAT := hid (at_yes w ow d f S h hd s hs he)
 obtain ⟨ms, mf, vc, dvals, hV⟩ := h
 have HV := hid hV
 have HF := hid hF
 have HN := hid hn
 have HD : Hid (S.dead = false) := hd
 have HFU : Hid (S.fuse = -1) := hfu
 clear hV hF hn hd hfu hs he
 go_enter Tryz.func140, Tryz.ntmps140
 go_wp2_with fail
 refine HAT.out.mono ?_
 rintro e w1 ⟨rfl, hb1⟩
 have HV1 := hid (HV.out.below hb1)
 have HB1 := hid hb1
 have c5 : w1.cell? ⟨d, 5, none⟩ = some (.int .i64 (-1)) := (HV1.out.1.cell 5).trans (by simp [HFU.out])
 have c7 : w1.cell? ⟨d, 7, none⟩ = some (.int .i64 S.ops) := (HV1.out.1.cell 7).trans rfl
 have f7 := HV1.out.1.frozen 7
 clear hb1 HAT
 go_wp2_with (first | (go_at_call 137; go_in) | fail)
 have hset := disk_set (i := 7) (v := .int .i64 (S.ops + 1)) (S' := { S with ops := S.ops + 1 }) HV1.out rfl rfl rfl rfl rfl rfl
 have HSET := hid hset
 clear hset c5 c7 f7
 have hse := settle_any (w1.setCell ⟨d, 7, none⟩ (.int .i64 (S.ops + 1))) ow f F (HSET.out.1.2.2.2.2.2.2.1 f F HF.out) HN.out hc HSET.out.1.new
 refine hse.mono ?_
 clear hse
 rintro e w2 ⟨ow2, rfl, hA2, hF2, hN2⟩
 have HR : Hid (DiskAt w2 ow2 d { S with ops := S.ops + 1, file := updF S.file f { F with safe := appAll F.chs F.safe, chs := [] } } /\ Fr CD ow ow2 w w2) := hid ⟨⟨ms, mf, vc, dvals, disk_close HSET.out.1 hF2 hA2 hN2⟩, (Fr.of_below HB1.out HV.out.new).trans ((HSET.out.2.mono cd_disk).trans (hF2.mono (cd_file f)))⟩
 clear hA2 hF2 hN2 HSET HV HV1
 go_wp2_with fail
 go_ret
 exact ⟨ow2, rfl, HR.out.1, HR.out.2⟩
theorem dat_close {w w1 : World} {ow : Nat -> Tag} {A : Option Addr} {n c : Nat} {l : List UInt8} (hnew : ∀ i, w.heap.size <= i -> ow i = .other) (ho : w1.ownsRow w.heap.size 5 1 (.slice A n c) n (bc l)) (hb : Below w.heap.size w w1) :
  ∃ ow1, Fr (fun _ => False) ow ow1 w w1 /\ (∀ i, w1.heap.size <= i -> ow1 i = .other) /\ ∀ a, A = some a -> 0 < l.length -> ow1 a.block = .dat := by
 refine ⟨fun i => if (Value.slice A n c).ownBlock = some i then .dat else ow i, ⟨hb.os, hb.tape, hb.output, hb.size, fun i hi _ => hb.block i hi, fun i hi => ?_, fun i hi => ?_⟩, fun i hi => ?_, fun a ha h0 => ?_⟩
 ·show (if (Value.slice A n c).ownBlock = some i then Tag.dat else ow i) = ow i
  rw [if_neg]
  intro e
  have := (ho.lt i e).1
  omega
 ·show (if (Value.slice A n c).ownBlock = some i then Tag.dat else ow i) = .other \/ _
  split
  ·exact Or.inr (Or.inl rfl)
  ·exact Or.inl (hnew i hi)
 ·show (if (Value.slice A n c).ownBlock = some i then Tag.dat else ow i) = .other
  rw [if_neg]
  ·exact hnew i (Nat.le_trans hb.size hi)
  ·intro e
   have := (ho.lt i e).2
   omega
 ·rcases ho.2 with ⟨h1, _⟩ | ⟨g, cap, cur, hv, _⟩
  ·injection h1 with h1
   rw [h1] at ha
   cases ha
  ·injection hv with h1
   subst h1
   injection ha with ha
   subst ha
   show (if (Value.slice (some ⟨g, 0, none⟩) n c).ownBlock = some g then Tag.dat else ow g) = .dat
   exact if_pos (show (Value.slice (some ⟨g, 0, none⟩) n c).ownBlock = some g from rfl)
theorem q_sub (q u : Int) (h0 : 0 <= u) (h1 : u <= q) (h2 : q <= 1073741824) : IntKind.i64.wrap (q - u) = q - u := IntWalk.i64_in _ (by omega)
set_option maxHeartbeats 4000000 in
theorem append_any (w : World) (ow : Nat -> Tag) (d f : Nat) (S : DiskS) (F : FileS) (h : DiskAt w ow d S) (hd : S.dead = false) (hfu : S.fuse = -1) (hop : 0 <= S.ops) (hop2 : S.ops <= 1099511627776) (s : ByteArray) (hs : GoodN s) (he : EntF S.dir s f) (hF : S.file f = some F)
  (A : Option Addr) (c : Nat) (b : List UInt8) (hb0 : 0 < b.length) (hRB : RB w A b) (hn : F.seen.length + b.length <= 1073741824) (hc : F.chs.length + 1 <= 1073741824) (hu0 : 0 <= S.used) (hu1 : S.used + b.length <= S.quota) (hq : S.quota <= 1073741824) :
  Calls Tryz.prog 107 #[.pointer (some ⟨d, 0, none⟩), .string s, .slice A b.length c] w (DOut w ow d { S with used := S.used + b.length, ops := S.ops + 1, file := updF S.file f { F with seen := F.seen ++ b, chs := F.chs ++ [.app b] } } (.int .i64 0)) := by
 have HAT := hid (at_yes w ow d f S h hd s hs he)
 obtain ⟨ms, mf, vc, dvals, hV⟩ := h
 have HV := hid hV
 have HF := hid hF
 have HR := hid hRB
 have HFU : Hid (S.fuse = -1) := hfu
 have hwr := q_sub S.quota S.used hu0 (by omega) hq
 have hg : decide (S.quota - S.used < (b.length : Int)) = false := by simp; omega
 have hp : decide ((0 : Int) < (b.length : Int)) = true := by simp; omega
 clear hV hF hd hfu hs he hRB
 go_enter Tryz.func107, Tryz.ntmps107
 go_wp2_with fail
 refine HAT.out.mono ?_
 rintro e w1 ⟨rfl, hb1⟩
 have HV1 := hid (HV.out.below hb1)
 have HB1 := hid hb1
 have c3 : w1.cell? ⟨d, 3, none⟩ = some (.int .i64 S.quota) := (HV1.out.1.cell 3).trans rfl
 have c4 : w1.cell? ⟨d, 4, none⟩ = some (.int .i64 S.used) := (HV1.out.1.cell 4).trans rfl
 have c5 : w1.cell? ⟨d, 5, none⟩ = some (.int .i64 (-1)) := (HV1.out.1.cell 5).trans (by simp [HFU.out])
 have c7 : w1.cell? ⟨d, 7, none⟩ = some (.int .i64 S.ops) := (HV1.out.1.cell 7).trans rfl
 have f7 := HV1.out.1.frozen 7
 clear hb1 HAT
 go_wp2_with fail
 go_quiet (fail)
 clear hwr hg hp
 go_wp2_with (first | (go_at_call 137; go_in) | fail)
 have HVd : Hid (DiskV (w1.drewN nq) ow d S ms mf vc dvals) := HV1.out.below (below_drewN (Below.refl _ _) nq)
 have hset := disk_set (i := 7) (v := .int .i64 (S.ops + 1)) (S' := { S with ops := S.ops + 1 }) HVd.out rfl rfl rfl rfl rfl rfl
 have HSET := hid hset.1
 have HFS : Hid (Fr CD ow ow w ((w1.drewN nq).setCell ⟨d, 7, none⟩ (.int .i64 (S.ops + 1)))) := hid ((Fr.of_below (HB1.out.trans (below_drewN (Below.refl _ _) nq)) HV.out.new).trans (hset.2.mono cd_disk))
 have HR2 : Hid (RB ((w1.drewN nq).setCell ⟨d, 7, none⟩ (.int .i64 (S.ops + 1))) A b) := hid (by
  have hR1 : RB (w1.drewN nq) A b := HR.out.below (HB1.out.trans (below_drewN (Below.refl _ _) nq))
  intro h0
  obtain ⟨g, off, e, hg, hcl⟩ := hR1 h0
  refine ⟨g, off, e, by rw [size_set]; exact hg, fun j hj => ?_⟩
  rw [World.cell?_setCell_other _ _ _ _ ?_]
  ·exact hcl j hj
  ·intro e2
   have h1 := hcl j hj
   rw [<- e2, HVd.out.1.cell 7] at h1
   simp at h1)
 clear hset HV1 HVd c3 c4 c5 c7 f7
 generalize (w1.drewN nq).setCell ⟨d, 7, none⟩ (.int .i64 (S.ops + 1)) = w2 at *
 go_region_with (first
  | (go_at_call 70; refine (clone_any b (by omega) A c _ (by exact HR2.out)).mono ?_; rintro e w3 ⟨A3, c3, rfl, o3, b3⟩; have HO3 := hid o3; have HB3 := hid b3; have HD3 := hid (dat_close (ow := ow) (by exact HSET.out.new) o3 b3); clear o3 b3)
  | (go_at_call 164; obtain ⟨ow3, F3, N3, D3⟩ := HD3.out; refine (fadd_any w3 ow3 f F (((HSET.out.below (Below.drew (Below.refl _ _))).keep F3 (fun _ e => e.elim) N3).2.2.2.2.2.2.1 f F HF.out) A3 c3 b (RB.of_own HO3.out) D3 hn hc N3).mono ?_; rintro e w4 ⟨ow4, rfl, hA4, hF4, hN4⟩; have HQ : Hid (DiskV w4 ow4 d _ ms mf vc dvals /\ Fr CD ow ow4 w w4) := hid ⟨disk_close ((HSET.out.below (Below.drew (Below.refl _ _))).keep F3 (fun _ e => e.elim) N3) hF4 hA4 hN4, HFS.out.trans ((Fr.of_below (Below.drew (Below.refl _ _)) HSET.out.new).trans ((F3.mono (fun _ e => e.elim)).trans (hF4.mono (cd_file f))))⟩; clear hA4 hF4 hN4 N3 D3 F3)
  | fail)
 have c4 : w4.cell? ⟨d, 4, none⟩ = some (.int .i64 S.used) := (HQ.out.1.1.cell 4).trans rfl
 have f4 := HQ.out.1.1.frozen 4
 clear HV HF HR HFU HB1 HSET HFS HR2 HO3 HB3 HD3
 go_wp2_with fail
 go_ret
 have hset := disk_set (i := 4) (v := .int .i64 (S.used + b.length)) (S' := { S with used := S.used + b.length, ops := S.ops + 1, file := updF S.file f { F with seen := F.seen ++ b, chs := F.chs ++ [.app b] } }) HQ.out.1 rfl rfl rfl rfl rfl rfl
 exact ⟨ow4, rfl, ⟨ms, mf, vc, dvals, hset.1⟩, HQ.out.2.trans (hset.2.mono cd_disk)⟩
theorem keyS (s : ByteArray) (h : s.size <= 1000) : keyOf Tryz.prog 9 (.string s) = some (key s) := keyOf_string_mk Tryz.underlying9 (by unfold maxLen; omega)
def DoOut (w : World) (ms n : Nat) (D : DataW Unit) (e : Ending) (w' : World) : Prop := e = .returned (.map (some ms)) /\ w'.ownsMap Tryz.prog 9 fileR ms n D /\ w.grownBy w' (some ms)
theorem do_made (ms n f : Nat) (D : DataW Unit) (s : ByteArray) (hs : s.size <= 1000) (hn : n <= 1073741824) (w : World) (h : w.ownsMap Tryz.prog 9 fileR ms n D) : Calls Tryz.prog 335 #[.agg #[.string s, .pointer (some ⟨f, 0, none⟩)], .map (some ms)] w (DoOut w ms (n + 1) (doD D (.made s f))) := by
 have HM : Hid ((w.alloc (.cells #[.string s, .pointer (some ⟨f, 0, none⟩)] 318)).ownsMap Tryz.prog 9 fileR ms n D) := h.alloc _
 clear h
 go_enter Tryz.func335, Tryz.ntmps335
 go_wp2_with (first
  | (at_mapUpdate; go_must (refine wpList_mapUpdate_own _ rfl _ _ _ 122 rfl 9 160 lawS Tryz.underlying122 fileR ms n _ rfl HM.out (by unfold maxLen; omega) _ _ _ rfl rfl (keyS s hs) (fv f) [] rfl ?_; intro w1 hown1 hgrow1; have HO := hid hown1; have HG := hid hgrow1; clear hown1 hgrow1))
  | fail)
 go_ret
 exact ⟨rfl, HO.out, (World.grownBy_alloc _ _ _).trans HG.out⟩
theorem do_rem (ms n : Nat) (D : DataW Unit) (s : ByteArray) (hs : s.size <= 1000) (w : World) (h : w.ownsMap Tryz.prog 9 fileR ms n D) : Calls Tryz.prog 332 #[.agg #[.string s], .map (some ms)] w (DoOut w ms n (doD D (.rem s))) := by
 have HM : Hid ((w.alloc (.cells #[.string s] 257)).ownsMap Tryz.prog 9 fileR ms n D) := h.alloc _
 clear h
 go_enter Tryz.func332, Tryz.ntmps332
 go_wp2_with (first
  | (at_delete; go_must (refine wpList_delete_own _ rfl _ _ 122 9 rfl 160 lawS Tryz.underlying122 fileR ms n _ rfl HM.out _ _ rfl (keyS s hs) ?_; intro w1 hown1 hgrow1; have HO := hid hown1; have HG := hid hgrow1; clear hown1 hgrow1))
  | fail)
 go_ret
 exact ⟨rfl, HO.out, (World.grownBy_alloc _ _ _).trans HG.out.grown⟩
theorem look1_yes {W : World} {ms n f : Nat} {D : DataW Unit} (h : W.ownsMap Tryz.prog 9 fileR ms n D) (s : ByteArray) (hs : s.size <= 1000) (he : EntF D s f) : (Instr.lookup 122 (.map (some ms)) (.string s) false).run Tryz.prog W = .ok (.pointer (some ⟨f, 0, none⟩)) W := by
 obtain ⟨v, ps, hr, hv⟩ := h.lookup lawS Tryz.underlying122 (zeroF W) (zd := .nil) (zp := []) rfl (keyOf_string_mk (s := s) Tryz.underlying9 (by unfold maxLen; omega))
 rw [show D.atKey (.string s.data.toList) .nil = fv f from he.1] at hv
 obtain rfl := fileR_fv hv
 exact hr
theorem do_ren (ms n f : Nat) (D : DataW Unit) (a b : ByteArray) (ha : a.size <= 1000) (hb : b.size <= 1000) (hn : n <= 1073741824) (he : EntF D a f) (w : World) (h : w.ownsMap Tryz.prog 9 fileR ms n D) : Calls Tryz.prog 338 #[.agg #[.string a, .string b], .map (some ms)] w (DoOut w ms (n + 1) (doD D (.ren a b))) := by
 have HM : Hid ((w.alloc (.cells #[.string a, .string b] 394)).ownsMap Tryz.prog 9 fileR ms n D) := h.alloc _
 have hlt := h.lt
 clear h
 have hlk := look1_yes HM.out a ha he
 have hD : doD D (.ren a b) = (D.put (key b) (fv f)).del (key a) := by show (D.put (key b) (D.atKey (key a) .nil)).del (key a) = _; rw [he.1]
 rw [hD]
 clear he hD
 go_enter Tryz.func338, Tryz.ntmps338
 go_wp2_with (first
  | (at_mapUpdate; go_must (refine wpList_mapUpdate_own _ rfl _ _ _ 122 rfl 9 160 lawS Tryz.underlying122 fileR ms n _ rfl HM.out (by unfold maxLen; omega) _ _ _ rfl rfl (keyS b hb) (fv f) [] rfl ?_; intro w1 hown1 hgrow1; have HO := hid hown1; have HG := hid hgrow1; have HB1 : Hid (Blk w1 w.heap.size 394 _) := (Blk.new w _ _).grown hgrow1 (by intro e; injection e with e; omega); have c0 : w1.cell? ⟨w.heap.size, 0, none⟩ = some (.string a) := (HB1.out.cell 0).trans rfl; clear hown1 hgrow1))
  | (at_delete; go_must (refine wpList_delete_own _ rfl _ _ 122 9 rfl 160 lawS Tryz.underlying122 fileR ms (n + 1) _ rfl HO.out _ _ rfl (keyS a ha) ?_; intro w2 hown2 hgrow2; have HO2 := hid hown2; have HG2 := hid hgrow2; clear hown2 hgrow2))
  | fail)
 go_ret
 exact ⟨rfl, HO2.out, (World.grownBy_alloc _ _ _).trans (HG.out.trans HG2.out.grown)⟩
end Go.Proofs.YtendlmdmbkcdnaaGreatDoor.oc
namespace Go.Proofs.YtendlmdmbkcdnaaGreatDoor.oc
open Go.RowKit Go.Maps Go.WideMaps
set_option maxRecDepth 100000
theorem infoCd : (Tryz.prog.info? 243).map (fun i => (i.zero, i.size, i.bytes)) = some (some .nilIface, 1, 16) := by kernel_rfl
def CDir (t : Tag) : Prop := t = .disk \/ t = .mseen \/ t = .msafe \/ t = .dchg
theorem cd_dir : ∀ t, CDir t -> CD t := by
 intro t h
 rcases h with rfl | rfl | rfl | rfl <;> exact ⟨(by intro e; cases e), (by intro e; cases e)⟩
def DAdd (w : World) (ow : Nat -> Tag) (d : Nat) (S : DiskS) (e : Ending) (w' : World) : Prop := ∃ ow', e = .returned (.tuple #[]) /\ DiskAt w' ow' d S /\ Fr CDir ow ow' w w'
theorem map_blk {w : World} {P : Program} {k : TypeId} {R : Value -> Option (DataW Unit × List MemPlace)} {ms d n : Nat} {D : DataW Unit} {t : TypeId} {cs : Array Value} (h : w.ownsMap P k R ms n D) (hB : Blk w d t cs) : ms ≠ d := by
 rintro rfl
 obtain ⟨es, clock, h1, _⟩ := h
 unfold Blk at hB
 rw [h1] at hB
 cases hB
theorem map_row {w : World} {P : Program} {k : TypeId} {R : Value -> Option (DataW Unit × List MemPlace)} {ms n : Nat} {D : DataW Unit} {B z m : Nat} {e : TypeId} {v : Value} {xs : List Value} (h : w.ownsMap P k R ms n D) (ho : w.ownsRow B e z v m xs) : v.ownBlock ≠ some ms := by
 intro hg
 obtain ⟨es, clock, h1, _⟩ := h
 rcases ho.2 with ⟨rfl, -⟩ | ⟨g, cap, cur, rfl, -, h2, -⟩
 ·cases hg
 ·have : g = ms := Option.some.inj hg
  subst this
  rw [h1] at h2
  cases h2
theorem dadd_close {w w1 w3 : World} {ow : Nat -> Tag} {d : Nat} {S : DiskS} {ms mf : Nat} {vc C3 v : Value} {dvals : List Value} {ch : DChg} {D' : DataW Unit} {box : Obj} (h : DiskV w ow d S ms mf vc dvals) (hl : S.lim + 1 <= 1073741824) (hch : DChgV v ch)
  (hm1 : w1.ownsMap Tryz.prog 9 fileR ms (S.lim + 1) D') (hg1 : w.grownBy w1 (some ms))
  (ho3 : w3.ownsRow 0 243 1 C3 (S.dchs.length + 1) (dvals ++ [v]))
  (hg3 : ((w1.setCell ⟨d, 0, none⟩ (.map (some ms))).alloc box).grownBy w3 vc.ownBlock) (hl3 : C3.ownBlock = vc.ownBlock \/ C3.ownBlock = some ((w1.setCell ⟨d, 0, none⟩ (.map (some ms))).alloc box).heap.size) :
  DAdd w ow d { S with dir := D', dchs := S.dchs ++ [ch], lim := S.lim + 1 } (.returned (.tuple #[])) (w3.setCell ⟨d, 2, none⟩ C3) := by
 have hnew := h.new
 obtain ⟨hB, ht, ⟨hm, hmt⟩, ⟨hf, hft⟩, ⟨hc, hct⟩, hcs, hfs, _, hl1, hl2⟩ := h
 have z1 := hg1.size
 have z3 := hg3.size
 rw [World.size_alloc, size_set] at z3
 have zf : (w3.setCell ⟨d, 2, none⟩ C3).heap.size = w3.heap.size := size_set _ _ _
 have hB1 := hB.grown hg1 (fun e => map_blk hm hB (by injection e with e; exact e.symm))
 have hB2 := (hB1.set_ 0 (.map (some ms))).alloc box
 have hc1 : w1.ownsRow 0 243 1 vc S.dchs.length dvals := own_keepH hc fun g hg => hg1.block g (hc.lt g hg).2 (fun e => map_row hm hc (by rw [hg, e]))
 have ncd : vc.ownBlock ≠ some d := own_ne hc hB (by decide)
 have hc2 := (own_set (i := 0) hc1 ncd (.map (some ms))).alloc box
 have hB3 := hB2.grown hg3 (fun e => ncd e.symm)
 have n3d : C3.ownBlock ≠ some d := own_ne ho3 hB3 (by decide)
 have hl3' : ∀ g, C3.ownBlock = some g -> vc.ownBlock = some g \/ w.heap.size <= g := fun g hg => by
  rcases hl3 with h | h
  ·exact Or.inl (h ▸ hg)
  ·right
   rw [hg] at h
   injection h with h
   rw [World.size_alloc, size_set] at h
   omega
 have keep : ∀ i, i < w.heap.size -> i ≠ d -> i ≠ ms -> vc.ownBlock ≠ some i -> (w3.setCell ⟨d, 2, none⟩ C3).heap[i]? = w.heap[i]? := fun i hi hid h1 h2 => by
  rw [Below.heap_setCell _ _ _ _ (by exact hid), hg3.block i (by rw [World.size_alloc, size_set]; omega) (fun e => h2 e.symm), Below.heap_alloc _ _ _ (by rw [size_set]; omega), Below.heap_setCell _ _ _ _ (by exact hid), hg1.block i hi (fun e => h1 (by injection e))]
 have hold : ∀ i, i < w.heap.size -> (if C3.ownBlock = some i then Tag.dchg else ow i) = ow i := fun i hi => by
  split
  ·rename_i h
   rcases hl3' i h with h1 | h1
   ·exact (hct i h1).symm
   ·omega
  ·rfl
 have hnew' : ∀ i, w3.heap.size <= i -> (if C3.ownBlock = some i then Tag.dchg else ow i) = .other := fun i hi => by
  rw [if_neg (fun e => by have := (ho3.lt i e).2; omega)]
  exact hnew i (by omega)
 have hFr : Fr CDir ow (fun i => if C3.ownBlock = some i then .dchg else ow i) w (w3.setCell ⟨d, 2, none⟩ C3) := by
  refine ⟨hg3.os.trans hg1.os, hg3.tape.trans hg1.tape, hg3.output.trans hg1.output, by omega, fun i hi hC => ?_, hold, fun i hi => ?_⟩
  ·refine keep i hi ?_ ?_ ?_
   ·rintro rfl
    exact hC (Or.inl ht)
   ·rintro rfl
    exact hC (Or.inr (Or.inl hmt))
   ·intro e
    exact hC (Or.inr (Or.inr (Or.inr (hct i e))))
  ·show (if C3.ownBlock = some i then Tag.dchg else ow i) = .other \/ _
   split
   ·exact Or.inr (Or.inr (Or.inr (Or.inr (Or.inr rfl))))
   ·exact Or.inl (hnew i hi)
 have hm3 : (w3.setCell ⟨d, 2, none⟩ C3).ownsMap Tryz.prog 9 fileR ms (S.lim + 1) D' := by
  have a1 : ((w1.setCell ⟨d, 0, none⟩ (.map (some ms))).alloc box).ownsMap Tryz.prog 9 fileR ms (S.lim + 1) D' := (hm1.setCell (by exact map_blk hm hB) _).alloc box
  have a2 := a1.kept hg3 (fun e => map_row a1 hc2 e.symm)
  exact a2.setCell (by exact map_blk hm hB) _
 refine ⟨_, rfl, ⟨ms, mf, C3, dvals ++ [v], hB3.set_ 2 C3, ?_, ⟨hm3, ?_⟩, ⟨?_, ?_⟩, ⟨?_, fun g hg => ?_⟩, fun i c hi => ?_, fun f F hF => (hfs f F hF).keep hFr ?_ ?_ ?_ ?_ ?_, fun i hi => hnew' i (by omega), ?_, hl⟩, hFr⟩
 ·rw [hold d hB.lt]; exact ht
 ·rw [hold ms hm.lt]; exact hmt
 ·refine map_keepH (hf.mono (Nat.le_succ _)) (keep mf hf.lt ?_ ?_ ?_)
  ·rintro rfl; rw [hft] at ht; cases ht
  ·rintro rfl; rw [hft] at hmt; cases hmt
  ·intro e; have := hct _ e; rw [hft] at this; cases this
 ·rw [hold mf hf.lt]; exact hft
 ·show (w3.setCell ⟨d, 2, none⟩ C3).ownsRow 0 _ 1 C3 (S.dchs ++ [ch]).length _
  rw [List.length_append]
  exact own_set (i := 2) ho3 n3d C3
 ·show (if C3.ownBlock = some g then Tag.dchg else ow g) = .dchg
  rw [if_pos hg]
 ·have hvl : dvals.length = S.dchs.length := by have := hc.1; omega
  by_cases hlt : i < S.dchs.length
  ·have hi' : S.dchs[i]? = some c := by simpa [List.getElem?_append_left hlt] using hi
   obtain ⟨u, hu, hU⟩ := hcs i c hi'
   exact ⟨u, by rw [List.getElem?_append_left (by omega)]; exact hu, hU⟩
  ·have hil : i = S.dchs.length := by
    have := (List.getElem?_eq_some_iff.1 hi).1
    simp at this
    omega
   subst hil
   have : c = ch := by simpa using hi.symm
   subst this
   exact ⟨v, by rw [List.getElem?_append_right (by omega), hvl, Nat.sub_self]; rfl, hch⟩
 ·rintro (h | h | h | h) <;> cases h
 ·rintro (h | h | h | h) <;> cases h
 ·rintro (h | h | h | h) <;> cases h
 ·rintro (h | h | h | h) <;> cases h
 ·rintro (h | h | h | h) <;> cases h
 ·show (S.dchs ++ [ch]).length <= S.lim + 1
  simp
  exact hl1
end Go.Proofs.YtendlmdmbkcdnaaGreatDoor.oc
namespace Go.Proofs.YtendlmdmbkcdnaaGreatDoor.oc
open Go.RowKit Go.Maps Go.WideMaps
open Go.Lib (hid)
set_option maxRecDepth 100000
set_option maxHeartbeats 4000000 in
theorem dadd_any (w : World) (ow : Nat -> Tag) (d : Nat) (S : DiskS) (ms mf : Nat) (vc : Value) (dvals : List Value) (ch : DChg) (ty fn : Nat) (x : Value) (h : DiskV w ow d S ms mf vc dvals) (hl : S.lim + 1 <= 1073741824) (hch : DChgV (.iface ty x) ch) (h1 : (Value.iface ty x).oneCell' = true)
  (na : ∀ W, (nilAhead 538 ty x "chronicle/simfs.do").run Tryz.prog W = .ok (some false) W) (me : ∀ W, (method 538 ty x "chronicle/simfs.do").run Tryz.prog W = .ok (fn, x) W)
  (hcf : ∀ W m, (callFunc fn #[x, .map (some m)]).run Tryz.prog W = .ok (.enter fn #[x, .map (some m)]) W)
  (hdo : ∀ W, W.ownsMap Tryz.prog 9 fileR ms S.lim S.dir -> Calls Tryz.prog fn #[x, .map (some ms)] W (DoOut W ms (S.lim + 1) (doD S.dir ch))) :
  Calls Tryz.prog 138 #[.pointer (some ⟨d, 0, none⟩), .iface ty x] w (DAdd w ow d { S with dir := doD S.dir ch, dchs := S.dchs ++ [ch], lim := S.lim + 1 }) := by
 obtain ⟨i0, hi, hz0, hz1, hz2⟩ := info_parts infoCd
 have hcc := h.2.2.2.2.1.1
 obtain ⟨Ac, cc, rfl⟩ := own_slice hcc
 have hB := h.1
 have hm := h.2.2.1.1
 have c0 : w.cell? ⟨d, 0, none⟩ = some (.map (some ms)) := (hB.cell 0).trans rfl
 have f0 := hB.frozen 0
 have HDO := hid hdo
 have H := hid h
 have HB := hid hB
 have HM := hid hm
 have HC := hid hcc
 have HCH := hid hch
 have hlim : (S.dchs.length + 1) * 16 <= 140737488355328 := by have := h.2.2.2.2.2.2.2.2.1; omega
 have hmx : S.dchs.length + 1 <= maxLen := by have := h.2.2.2.2.2.2.2.2.1; unfold maxLen; omega
 have HLM := hid hlim
 have HMX := hid hmx
 clear hdo h hcc hB hm hch hlim hmx
 go_enter Tryz.func138, Tryz.ntmps138
 go_wp2_with fail
 go_region_with (refine (HDO.out _ HM.out.drew).mono ?_; rintro e w1 ⟨rfl, hm1, hg1⟩; have H1 : Hid (Blk w1 d 127 _) := (Blk.drew HB.out).grown hg1 (fun e => map_blk HM.out HB.out (by injection e with e; exact e.symm)); have c1 : w1.cell? ⟨d, 0, none⟩ = some (.map (some ms)) := (H1.out.cell 0).trans rfl; have f1 := H1.out.frozen 0; have HM1 := hid hm1; have HG1 : Hid (w.grownBy w1 (some ms)) := hid ⟨hg1.os, hg1.tape, hg1.output, hg1.size, hg1.block⟩; clear hm1 hg1)
 all_goals
  have H2 : Hid (Blk (w1.setCell ⟨d, 0, none⟩ (.map (some ms))) d 127 _) := H1.out.set_ 0 (.map (some ms))
  have HC2 : Hid ((w1.setCell ⟨d, 0, none⟩ (.map (some ms))).ownsRow 0 243 1 (.slice Ac S.dchs.length cc) S.dchs.length dvals) := hid (own_set (i := 0) (own_keepH HC.out fun g hg => HG1.out.block g (HC.out.lt g hg).2 (fun e => map_row HM.out HC.out (by rw [hg, e]))) (own_ne HC.out HB.out (by decide)) (.map (some ms)))
  have c2 : (w1.setCell ⟨d, 0, none⟩ (.map (some ms))).cell? ⟨d, 2, none⟩ = some (.slice Ac S.dchs.length cc) := (H2.out.cell 2).trans rfl
  clear c0 f0 na me c1 f1 HDO HC H1
  have hw2 : ∃ W, W = w1.setCell ⟨d, 0, none⟩ (.map (some ms)) := ⟨_, rfl⟩
  obtain ⟨w2, hw2⟩ := hw2
  rw [<- hw2] at H2 HC2 c2 ⊢
  have HW2 := hid hw2
  clear hw2
  go_wp2_with (first
   | (at_builtin; go_must (refine wpList_append_own_at _ rfl _ _ 123 rfl 0 243 i0 .nilIface 1 16 Tryz.underlying123 hi hz0 hz1 hz2 rfl (by decide) (.slice Ac S.dchs.length cc) S.dchs.length dvals rfl (HC2.out.alloc _) ⟨w2.heap.size, 0, none⟩ 1 1 [.iface ty x] rfl rfl (cell_one_new _ _ _) (by simp [h1]) HMX.out HLM.out (Nat.zero_le _) ?_; intro v3 w3 hown3 hgr3 _ hloc3; obtain ⟨A3, c3, rfl⟩ := own_slice hown3; have HO3 := hid hown3; have HG3 := hid hgr3; have HL3 := hid hloc3; have HT3 : Hid (Blk w3 d 127 _) := (H2.out.alloc _).grown hgr3 (fun e => own_ne HC2.out H2.out (by decide) e.symm); have c4 : w3.cell? ⟨d, 2, none⟩ = some (.slice Ac S.dchs.length cc) := (HT3.out.cell 2).trans rfl; have f4 := HT3.out.frozen 2; clear hown3 hgr3 hloc3 c2))
   | fail)
  go_end0
  have hg3 := HG3.out
  have hl3 := HL3.out
  rw [HW2.out] at hg3 hl3
  exact dadd_close H.out hl HCH.out HM1.out HG1.out HO3.out hg3 hl3
theorem dadd_made (w : World) (ow : Nat -> Tag) (d f : Nat) (S : DiskS) (s : ByteArray) (hs : s.size <= 1000) (h : DiskAt w ow d S) (hl : S.lim + 1 <= 1073741824) :
  Calls Tryz.prog 138 #[.pointer (some ⟨d, 0, none⟩), .iface 318 (.agg #[.string s, .pointer (some ⟨f, 0, none⟩)])] w (DAdd w ow d { S with dir := doD S.dir (.made s f), dchs := S.dchs ++ [.made s f], lim := S.lim + 1 }) := by
 obtain ⟨ms, mf, vc, dvals, h⟩ := h
 exact dadd_any w ow d S ms mf vc dvals (.made s f) 318 335 (.agg #[.string s, .pointer (some ⟨f, 0, none⟩)]) h hl ⟨rfl, hs⟩ (by simp [Value.oneCell']) (fun _ => by kernel_rfl) (fun _ => by kernel_rfl) (fun _ _ => by kernel_rfl) (fun W hW => do_made ms S.lim f S.dir s hs (by omega) W hW)
theorem dadd_ren (w : World) (ow : Nat -> Tag) (d f : Nat) (S : DiskS) (a b : ByteArray) (ha : a.size <= 1000) (hb : b.size <= 1000) (he : EntF S.dir a f) (h : DiskAt w ow d S) (hl : S.lim + 1 <= 1073741824) :
  Calls Tryz.prog 138 #[.pointer (some ⟨d, 0, none⟩), .iface 394 (.agg #[.string a, .string b])] w (DAdd w ow d { S with dir := doD S.dir (.ren a b), dchs := S.dchs ++ [.ren a b], lim := S.lim + 1 }) := by
 obtain ⟨ms, mf, vc, dvals, h⟩ := h
 exact dadd_any w ow d S ms mf vc dvals (.ren a b) 394 338 (.agg #[.string a, .string b]) h hl ⟨rfl, ha, hb⟩ (by simp [Value.oneCell']) (fun _ => by kernel_rfl) (fun _ => by kernel_rfl) (fun _ _ => by kernel_rfl) (fun W hW => do_ren ms S.lim f S.dir a b ha hb (by omega) he W hW)
theorem dadd_rem (w : World) (ow : Nat -> Tag) (d : Nat) (S : DiskS) (s : ByteArray) (hs : s.size <= 1000) (h : DiskAt w ow d S) (hl : S.lim + 1 <= 1073741824) :
  Calls Tryz.prog 138 #[.pointer (some ⟨d, 0, none⟩), .iface 257 (.agg #[.string s])] w (DAdd w ow d { S with dir := doD S.dir (.rem s), dchs := S.dchs ++ [.rem s], lim := S.lim + 1 }) := by
 obtain ⟨ms, mf, vc, dvals, h⟩ := h
 exact dadd_any w ow d S ms mf vc dvals (.rem s) 257 332 (.agg #[.string s]) h hl ⟨rfl, hs⟩ (by simp [Value.oneCell']) (fun _ => by kernel_rfl) (fun _ => by kernel_rfl) (fun _ _ => by kernel_rfl) (fun W hW => (do_rem ms S.lim S.dir s hs W hW).mono (by rintro e w1 ⟨e1, e2, e3⟩; exact ⟨e1, e2.mono (Nat.le_succ _), e3⟩))
theorem newfile_close {w : World} {ow : Nat -> Tag} {d : Nat} {S : DiskS} {ms mf : Nat} {vc : Value} {dvals : List Value} (h : DiskV w ow d S ms mf vc dvals) :
  DiskV (w.alloc (.cells #[.slice none 0 0, .slice none 0 0, .slice none 0 0] 159)) (fun i => if i = w.heap.size then .file i else ow i) d { S with file := updF S.file w.heap.size ⟨[], [], []⟩ } ms mf vc dvals /\
   Fr CD ow (fun i => if i = w.heap.size then .file i else ow i) w (w.alloc (.cells #[.slice none 0 0, .slice none 0 0, .slice none 0 0] 159)) := by
 have hnew := h.new
 have hold : ∀ i, i < w.heap.size -> (if i = w.heap.size then Tag.file i else ow i) = ow i := fun i hi => by rw [if_neg (by omega)]
 have hFr : Fr (fun t => ∃ f, t = .file f /\ f = w.heap.size) ow (fun i => if i = w.heap.size then .file i else ow i) w (w.alloc (.cells #[.slice none 0 0, .slice none 0 0, .slice none 0 0] 159)) := by
  refine ⟨rfl, rfl, rfl, by rw [World.size_alloc]; omega, fun i hi _ => Below.heap_alloc _ _ _ hi, hold, fun i hi => ?_⟩
  show (if i = w.heap.size then Tag.file i else ow i) = .other \/ _
  by_cases e : i = w.heap.size
  ·rw [if_pos e]; exact Or.inr (Or.inr ⟨i, rfl, e⟩)
  ·rw [if_neg e]; exact Or.inl (hnew i hi)
 have hnew' : ∀ i, (w.alloc (.cells #[.slice none 0 0, .slice none 0 0, .slice none 0 0] 159)).heap.size <= i -> (if i = w.heap.size then Tag.file i else ow i) = .other := fun i hi => by
  rw [World.size_alloc] at hi
  rw [if_neg (by omega)]
  exact hnew i (by omega)
 obtain ⟨hB, ht, ⟨hm, hmt⟩, ⟨hf, hft⟩, ⟨hc, hct⟩, hcs, hfs, _, hl1, hl2⟩ := h
 refine ⟨⟨hB.alloc _, (hold _ hB.lt).trans ht, ⟨hm.alloc _, (hold _ hm.lt).trans hmt⟩, ⟨hf.alloc _, (hold _ hf.lt).trans hft⟩, ⟨hc.alloc _, fun g hg => (hold _ (hc.lt g hg).2).trans (hct g hg)⟩, hcs, fun f F hF => ?_, hnew', hl1, hl2⟩, hFr.mono ?_⟩
 ·unfold updF at hF
  by_cases e : f = w.heap.size
  ·subst e
   simp only [if_true] at hF
   injection hF with hF
   subst hF
   exact ⟨_, _, _, [], Blk.new w _ _, by simp, ⟨World.ownsRow_nil _ _ _ _, fun g hg => by cases hg⟩, ⟨World.ownsRow_nil _ _ _ _, fun g hg => by cases hg⟩, ⟨World.ownsRow_nil _ _ _ _, fun g hg => by cases hg⟩, fun i c hi => by simp at hi⟩
  ·simp only [e, if_false] at hF
   exact (hfs f F hF).keep hFr (by rintro ⟨_, h, _⟩; cases h) (by rintro ⟨_, h, h2⟩; injection h with h; exact e (h.trans h2)) (by rintro ⟨_, h, _⟩; cases h) (by rintro ⟨_, h, _⟩; cases h) (by rintro ⟨_, h, _⟩; cases h)
 ·rintro t ⟨f, rfl, _⟩
  exact ⟨(by intro e; cases e), (by intro e; cases e)⟩
def CrOut (w : World) (ow : Nat -> Tag) (d : Nat) (S : DiskS) (s : ByteArray) (e : Ending) (w' : World) : Prop := ∃ f ow', e = .returned (.int .i64 0) /\ w.heap.size <= f /\ DiskAt w' ow' d { S with dir := doD S.dir (.made s f), dchs := S.dchs ++ [.made s f], lim := S.lim + 1, ops := S.ops + 1, file := updF S.file f ⟨[], [], []⟩ } /\ Fr CD ow ow' w w'
set_option maxHeartbeats 4000000 in
theorem create_any (w : World) (ow : Nat -> Tag) (d : Nat) (S : DiskS) (h : DiskAt w ow d S) (hd : S.dead = false) (hfu : S.fuse = -1) (hop : 0 <= S.ops) (hop2 : S.ops <= 1099511627776) (s : ByteArray) (hs : GoodN s) (he : NoEnt S.dir s) (hl : S.lim + 1 <= 1073741824) (hsz : (Maps.size S.dir : Int) < 65536) :
  Calls Tryz.prog 153 #[.pointer (some ⟨d, 0, none⟩), .string s] w (CrOut w ow d S s) := by
 have HAT := hid (at_no w ow d S h hd s hs he)
 obtain ⟨ms, mf, vc, dvals, hV⟩ := h
 have HV := hid hV
 have HG := hid hs
 have HFU : Hid (S.fuse = -1) := hfu
 have hdec : decide ((65536 : Int) <= (Maps.size S.dir : Int)) = false := by simp; omega
 clear hV hd hfu hs he
 go_enter Tryz.func153, Tryz.ntmps153
 go_wp2_with fail
 refine HAT.out.mono ?_
 rintro e w1 ⟨rfl, hb1⟩
 have HV1 := hid (HV.out.below hb1)
 have HB1 := hid hb1
 have c0 : w1.cell? ⟨d, 0, none⟩ = some (.map (some ms)) := (HV1.out.1.cell 0).trans rfl
 have c5 : w1.cell? ⟨d, 5, none⟩ = some (.int .i64 (-1)) := (HV1.out.1.cell 5).trans (by simp [HFU.out])
 have c7 : w1.cell? ⟨d, 7, none⟩ = some (.int .i64 S.ops) := (HV1.out.1.cell 7).trans rfl
 have f7 := HV1.out.1.frozen 7
 have hln := HV1.out.2.2.1.1.len Tryz.underlying122
 clear hb1 HAT
 go_wp2_with fail
 go_wp2_with (first | (go_at_call 137; go_in) | fail)
 have hset := disk_set (i := 7) (v := .int .i64 (S.ops + 1)) (S' := { S with ops := S.ops + 1 }) HV1.out rfl rfl rfl rfl rfl rfl
 have HSET := hid hset.1
 have HFS : Hid (Fr CD ow ow w (w1.setCell ⟨d, 7, none⟩ (.int .i64 (S.ops + 1)))) := hid ((Fr.of_below HB1.out HV.out.new).trans (hset.2.mono cd_disk))
 clear hset c0 c5 c7 f7 hln hdec
 have hnf := newfile_close HSET.out
 have hsz1 : (w1.setCell ⟨d, 7, none⟩ (.int .i64 (S.ops + 1))).heap.size = w1.heap.size := size_set _ _ _
 rw [hsz1] at hnf
 have HNF := hid hnf
 have hle := HB1.out.size
 clear hnf HSET HV1
 refine (dadd_made _ _ d w1.heap.size { S with ops := S.ops + 1, file := updF S.file w1.heap.size ⟨[], [], []⟩ } s (Nat.le_trans HG.out.2.1 (by decide)) ⟨ms, mf, vc, dvals, HNF.out.1⟩ hl).mono ?_
 rintro e w2 ⟨ow2, rfl, hD2, hF2⟩
 have HD2 := hid hD2
 have HF2 : Hid (Fr CD ow ow2 w w2) := hid (HFS.out.trans (HNF.out.2.trans (hF2.mono cd_dir)))
 clear hD2 hF2 HNF HFS
 go_wp2_with fail
 go_ret
 exact ⟨w1.heap.size, ow2, rfl, hle, HD2.out, HF2.out⟩
set_option maxHeartbeats 4000000 in
theorem rename_no (w : World) (ow : Nat -> Tag) (d f : Nat) (S : DiskS) (h : DiskAt w ow d S) (hd : S.dead = false) (hfu : S.fuse = -1) (hop : 0 <= S.ops) (hop2 : S.ops <= 1099511627776) (a b : ByteArray) (ha : GoodN a) (hb : GoodN b) (hab : (a.toList == b.toList) = false) (he : EntF S.dir a f) (hne : NoEnt S.dir b) (hl : S.lim + 1 <= 1073741824) :
  Calls Tryz.prog 249 #[.pointer (some ⟨d, 0, none⟩), .string a, .string b] w (DOut w ow d { S with dir := doD S.dir (.ren a b), dchs := S.dchs ++ [.ren a b], lim := S.lim + 1, ops := S.ops + 1 } (.int .i64 0)) := by
 have HAT := fun w1 (hb1 : Below w.heap.size w w1) => at_yes w1 ow d f S (h.below hb1) hd a ha he
 obtain ⟨ms, mf, vc, dvals, hV⟩ := h
 have c6 : w.cell? ⟨d, 6, none⟩ = some (.bool false) := (hV.1.cell 6).trans (by simp [hd])
 have HV := hid hV
 have HA := hid ha
 have HB := hid hb
 have HE := hid he
 have HNE := hid hne
 have HFU : Hid (S.fuse = -1) := hfu
 have HAT := hid HAT
 have HNW := hid hV.new
 have has : a.size <= 1000 := Nat.le_trans ha.2.1 (by decide)
 have hbs : b.size <= 1000 := Nat.le_trans hb.2.1 (by decide)
 clear hV hd hfu ha hb he hne
 go_enter Tryz.func249, Tryz.ntmps249
 go_wp2_with (first | (go_at_call 84; go_in) | fail)
 refine (good_any a HA.out _).mono ?_
 rintro e w1 ⟨rfl, hb1⟩
 go_wp2_with fail
 refine (good_any b HB.out _).mono ?_
 rintro e w2 ⟨rfl, hb2⟩
 have hb2 := hb1.trans (hb2.mono hb1.size)
 clear HA HB
 go_wp2_with fail
 refine (HAT.out _ hb2).mono ?_
 rintro e w3 ⟨rfl, hb3⟩
 have HB3 : Hid (Below w.heap.size w w3) := hb2.trans (hb3.mono hb2.size)
 have HV1 := hid (HV.out.below HB3.out)
 have c5 : w3.cell? ⟨d, 5, none⟩ = some (.int .i64 (-1)) := (HV1.out.1.cell 5).trans (by simp [HFU.out])
 have c7 : w3.cell? ⟨d, 7, none⟩ = some (.int .i64 S.ops) := (HV1.out.1.cell 7).trans rfl
 have f7 := HV1.out.1.frozen 7
 clear hb1 hb2 hb3 HAT HV c6
 have hset := disk_set (i := 7) (v := .int .i64 (S.ops + 1)) (S' := { S with ops := S.ops + 1 }) HV1.out rfl rfl rfl rfl rfl rfl
 have HSET := hid hset.1
 have HFS : Hid (Fr CD ow ow w (w3.setCell ⟨d, 7, none⟩ (.int .i64 (S.ops + 1)))) := hid ((Fr.of_below HB3.out HNW.out).trans (hset.2.mono cd_disk))
 have hlk := look_no HSET.out.2.2.1.1 b hbs HNE.out
 have c0 : w3.cell? ⟨d, 0, none⟩ = some (.map (some ms)) := (HV1.out.1.cell 0).trans rfl
 clear hset
 go_wp2_with (first | (go_at_call 137; go_in) | fail)
 clear c0 c5 c7 f7 hlk HV1
 refine (dadd_ren _ ow d f { S with ops := S.ops + 1 } a b has hbs HE.out ⟨ms, mf, vc, dvals, HSET.out⟩ hl).mono ?_
 rintro e w4 ⟨ow4, rfl, hD4, hF4⟩
 have HD4 := hid hD4
 have HF4 : Hid (Fr CD ow ow4 w w4) := hid (HFS.out.trans (hF4.mono cd_dir))
 clear hD4 hF4 HFS HSET
 go_wp2_with fail
 go_ret
 exact ⟨ow4, rfl, HD4.out, HF4.out⟩
set_option maxHeartbeats 4000000 in
theorem rename_yes (w : World) (ow : Nat -> Tag) (d f g : Nat) (S : DiskS) (h : DiskAt w ow d S) (hd : S.dead = false) (hfu : S.fuse = -1) (hop : 0 <= S.ops) (hop2 : S.ops <= 1099511627776) (a b : ByteArray) (ha : GoodN a) (hb : GoodN b) (hab : (a.toList == b.toList) = false) (he : EntF S.dir a f) (hne : EntF S.dir b g) (G : FileS) (hG : S.file g = some G) (hu0 : G.seen.length <= S.used) (hu1 : S.used <= 1073741824) (hl : S.lim + 1 <= 1073741824) :
  Calls Tryz.prog 249 #[.pointer (some ⟨d, 0, none⟩), .string a, .string b] w (DOut w ow d { S with dir := doD S.dir (.ren a b), dchs := S.dchs ++ [.ren a b], lim := S.lim + 1, used := S.used - G.seen.length, ops := S.ops + 1 } (.int .i64 0)) := by
 have HAT := fun w1 (hb1 : Below w.heap.size w w1) => at_yes w1 ow d f S (h.below hb1) hd a ha he
 obtain ⟨ms, mf, vc, dvals, hV⟩ := h
 have c6 : w.cell? ⟨d, 6, none⟩ = some (.bool false) := (hV.1.cell 6).trans (by simp [hd])
 have HV := hid hV
 have HA := hid ha
 have HB := hid hb
 have HE := hid he
 have HNE := hid hne
 have HFU : Hid (S.fuse = -1) := hfu
 have HAT := hid HAT
 have HNW := hid hV.new
 have has : a.size <= 1000 := Nat.le_trans ha.2.1 (by decide)
 have hbs : b.size <= 1000 := Nat.le_trans hb.2.1 (by decide)
 clear hV hd hfu ha hb he hne
 go_enter Tryz.func249, Tryz.ntmps249
 go_wp2_with (first | (go_at_call 84; go_in) | fail)
 refine (good_any a HA.out _).mono ?_
 rintro e w1 ⟨rfl, hb1⟩
 go_wp2_with fail
 refine (good_any b HB.out _).mono ?_
 rintro e w2 ⟨rfl, hb2⟩
 have hb2 := hb1.trans (hb2.mono hb1.size)
 clear HA HB
 go_wp2_with fail
 refine (HAT.out _ hb2).mono ?_
 rintro e w3 ⟨rfl, hb3⟩
 have HB3 : Hid (Below w.heap.size w w3) := hb2.trans (hb3.mono hb2.size)
 have HV1 := hid (HV.out.below HB3.out)
 have c5 : w3.cell? ⟨d, 5, none⟩ = some (.int .i64 (-1)) := (HV1.out.1.cell 5).trans (by simp [HFU.out])
 have c7 : w3.cell? ⟨d, 7, none⟩ = some (.int .i64 S.ops) := (HV1.out.1.cell 7).trans rfl
 have f7 := HV1.out.1.frozen 7
 clear hb1 hb2 hb3 HAT HV c6
 have hset := disk_set (i := 7) (v := .int .i64 (S.ops + 1)) (S' := { S with ops := S.ops + 1 }) HV1.out rfl rfl rfl rfl rfl rfl
 have HSET := hid hset.1
 have HFS : Hid (Fr CD ow ow w (w3.setCell ⟨d, 7, none⟩ (.int .i64 (S.ops + 1)))) := hid ((Fr.of_below HB3.out HNW.out).trans (hset.2.mono cd_disk))
 have hlk := look_yes HSET.out.2.2.1.1 b hbs HNE.out
 have c0 : w3.cell? ⟨d, 0, none⟩ = some (.map (some ms)) := (HV1.out.1.cell 0).trans rfl
 obtain ⟨vs, vf, vc2, vals, hGB, hGt, ⟨hGs, _⟩, _⟩ := HSET.out.2.2.2.2.2.2.1 g G hG
 obtain ⟨As, cs, rfl⟩ := own_slice hGs
 have HGB := hid hGB
 clear hGB hGt hGs hset
 go_wp2_with (first | (go_at_call 137; go_in) | fail)
 clear c0 c5 c7 f7 hlk HV1
 have hw4 : ∃ W, W = w3.setCell ⟨d, 7, none⟩ (.int .i64 (S.ops + 1)) := ⟨_, rfl⟩
 obtain ⟨w4, hw4⟩ := hw4
 rw [<- hw4] at HSET HFS HGB ⊢
 clear hw4
 have c4 : w4.cell? ⟨d, 4, none⟩ = some (.int .i64 S.used) := (HSET.out.1.cell 4).trans rfl
 have f4 := HSET.out.1.frozen 4
 have g0 : w4.cell? ⟨g, 0, none⟩ = some (.slice As G.seen.length cs) := (HGB.out.cell 0).trans rfl
 have hwr : IntKind.i64.wrap (S.used - (G.seen.length : Int)) = S.used - G.seen.length := IntWalk.i64_in _ (by omega)
 clear HAT hb2 HB3 HNW hab
 go_region_with (fail)
 all_goals
  have hset2 := disk_set (i := 4) (v := .int .i64 (S.used - G.seen.length)) (S' := { S with used := S.used - G.seen.length, ops := S.ops + 1 }) (HSET.out.below (Below.drew (Below.refl _ _))) rfl rfl rfl rfl rfl rfl
  have HS2 := hid hset2.1
  have HF2 : Hid (Fr CD ow ow w (w4.drew.setCell ⟨d, 4, none⟩ (.int .i64 (S.used - G.seen.length)))) := hid (HFS.out.trans ((Fr.of_below (Below.drew (Below.refl _ _)) HSET.out.new).trans (hset2.2.mono cd_disk)))
  clear hset2 c4 f4 g0 hwr HSET HFS HGB
  go_wp2_with fail
  refine (dadd_ren _ ow d f { S with used := S.used - G.seen.length, ops := S.ops + 1 } a b has hbs HE.out ⟨ms, mf, vc, dvals, by exact HS2.out⟩ hl).mono ?_
  rintro e w6 ⟨ow6, rfl, hD6, hF6⟩
  have HD6 := hid hD6
  have HF6 : Hid (Fr CD ow ow6 w w6) := hid (Fr.trans (by exact HF2.out) (hF6.mono cd_dir))
  clear hD6 hF6 HF2 HS2
  go_wp2_with fail
  go_ret
  exact ⟨ow6, rfl, HD6.out, HF6.out⟩
end Go.Proofs.YtendlmdmbkcdnaaGreatDoor.oc
namespace Go.Proofs.YtendlmdmbkcdnaaGreatDoor.oc
open Go.RowKit Go.Maps Go.WideMaps
set_option maxRecDepth 100000
def doAll (chs : List DChg) (D : DataW Unit) : DataW Unit := chs.foldl doD D
theorem doAll_snoc (D : DataW Unit) (chs : List DChg) (c : DChg) : doAll (chs ++ [c]) D = doD (doAll chs D) c := by simp [doAll]
def ChOk (D : DataW Unit) : DChg -> Prop
 | .ren a _ => ∃ f, EntF D a f
 | _ => True
structure Does (D : DataW Unit) (v : Value) (ch : DChg) (ty fn : Nat) (x : Value) : Prop where
 iface : v = .iface ty x
 one : (Value.iface ty x).oneCell' = true
 na : ∀ W, (nilAhead 538 ty x "chronicle/simfs.do").run Tryz.prog W = .ok (some false) W
 me : ∀ W, (method 538 ty x "chronicle/simfs.do").run Tryz.prog W = .ok (fn, x) W
 cf : ∀ W m, (callFunc fn #[x, .map (some m)]).run Tryz.prog W = .ok (.enter fn #[x, .map (some m)]) W
 calls : ∀ ms n W, n <= 1073741824 -> W.ownsMap Tryz.prog 9 fileR ms n D -> Calls Tryz.prog fn #[x, .map (some ms)] W (DoOut W ms (n + 1) (doD D ch))
theorem does_of {D : DataW Unit} {v : Value} {ch : DChg} (hV : DChgV v ch) (hok : ChOk D ch) : ∃ ty fn x, Does D v ch ty fn x := by
 cases ch with
 | made s f =>
  obtain ⟨rfl, hs⟩ := hV
  exact ⟨_, 335, _, rfl, by simp [Value.oneCell'], fun _ => by kernel_rfl, fun _ => by kernel_rfl, fun _ _ => by kernel_rfl, fun ms n W hn hW => do_made ms n f D s hs hn W hW⟩
 | ren a b =>
  obtain ⟨rfl, ha, hb⟩ := hV
  obtain ⟨f, hf⟩ := hok
  exact ⟨_, 338, _, rfl, by simp [Value.oneCell'], fun _ => by kernel_rfl, fun _ => by kernel_rfl, fun _ _ => by kernel_rfl, fun ms n W hn hW => do_ren ms n f D a b ha hb hn hf W hW⟩
 | rem s =>
  obtain ⟨rfl, hs⟩ := hV
  exact ⟨_, 332, _, rfl, by simp [Value.oneCell'], fun _ => by kernel_rfl, fun _ => by kernel_rfl, fun _ _ => by kernel_rfl, fun ms n W hn hW => (do_rem ms n D s hs W hW).mono (by rintro e w1 ⟨e1, e2, e3⟩; exact ⟨e1, e2.mono (Nat.le_succ _), e3⟩)⟩
theorem dsafe_close {w w1 : World} {ow : Nat -> Tag} {d n : Nat} {S : DiskS} {ms mf : Nat} {vc : Value} {dvals : List Value} {D' : DataW Unit} (h : DiskV w ow d S ms mf vc dvals) (hn : S.lim <= n) (hn2 : n <= 1073741824)
  (hm1 : w1.ownsMap Tryz.prog 9 fileR mf n D') (hg1 : w.grownBy w1 (some mf)) :
  DiskV (w1.setCell ⟨d, 1, none⟩ (.map (some mf))) ow d { S with safe := D', lim := n } ms mf vc dvals /\ Fr CDir ow ow w (w1.setCell ⟨d, 1, none⟩ (.map (some mf))) := by
 have hnew := h.new
 obtain ⟨hB, ht, ⟨hm, hmt⟩, ⟨hf, hft⟩, ⟨hc, hct⟩, hcs, hfs, _, hl1, hl2⟩ := h
 have z1 := hg1.size
 have zf : (w1.setCell ⟨d, 1, none⟩ (.map (some mf))).heap.size = w1.heap.size := size_set _ _ _
 have hB1 := hB.grown hg1 (fun e => map_blk hf hB (by injection e with e; exact e.symm))
 have keep : ∀ i, i < w.heap.size -> i ≠ d -> i ≠ mf -> (w1.setCell ⟨d, 1, none⟩ (.map (some mf))).heap[i]? = w.heap[i]? := fun i hi hid h1 => by
  rw [Below.heap_setCell _ _ _ _ (by exact hid), hg1.block i hi (fun e => h1 (by injection e))]
 have hFr : Fr CDir ow ow w (w1.setCell ⟨d, 1, none⟩ (.map (some mf))) := by
  refine ⟨hg1.os, hg1.tape, hg1.output, by omega, fun i hi hC => ?_, fun _ _ => rfl, fun i hi => Or.inl (hnew i hi)⟩
  refine keep i hi ?_ ?_
  ·rintro rfl
   exact hC (Or.inl ht)
  ·rintro rfl
   exact hC (Or.inr (Or.inr (Or.inl hft)))
 refine ⟨⟨hB1.set_ 1 _, ht, ⟨?_, hmt⟩, ⟨hm1.setCell (by exact map_blk hf hB) _, hft⟩, ⟨own_keepH hc fun g hg => keep g (hc.lt g hg).2 ?_ ?_, hct⟩, hcs, fun f F hF => (hfs f F hF).keep hFr ?_ ?_ ?_ ?_ ?_, fun i hi => hnew i (by omega), Nat.le_trans hl1 hn, hn2⟩, hFr⟩
 ·refine (map_keepH hm (keep ms hm.lt ?_ ?_)).mono hn
  ·rintro rfl; rw [hmt] at ht; cases ht
  ·rintro rfl; rw [hmt] at hft; cases hft
 ·rintro rfl; have := hct _ hg; rw [ht] at this; cases this
 ·rintro rfl; have := hct _ hg; rw [hft] at this; cases this
 ·rintro (h | h | h | h) <;> cases h
 ·rintro (h | h | h | h) <;> cases h
 ·rintro (h | h | h | h) <;> cases h
 ·rintro (h | h | h | h) <;> cases h
 ·rintro (h | h | h | h) <;> cases h
theorem dclear_close {w : World} {ow : Nat -> Tag} {d : Nat} {S : DiskS} {ms mf : Nat} {vc : Value} {dvals : List Value} (h : DiskV w ow d S ms mf vc dvals) :
  DiskV (w.setCell ⟨d, 2, none⟩ (.slice none 0 0)) ow d { S with dchs := [] } ms mf (.slice none 0 0) [] /\ Fr CDir ow ow w (w.setCell ⟨d, 2, none⟩ (.slice none 0 0)) := by
 have hnew := h.new
 obtain ⟨hB, ht, ⟨hm, hmt⟩, ⟨hf, hft⟩, ⟨hc, hct⟩, hcs, hfs, _, hl1, hl2⟩ := h
 have zf : (w.setCell ⟨d, 2, none⟩ (.slice none 0 0)).heap.size = w.heap.size := size_set _ _ _
 have keep : ∀ i, i ≠ d -> (w.setCell ⟨d, 2, none⟩ (.slice none 0 0)).heap[i]? = w.heap[i]? := fun i hid => Below.heap_setCell _ _ _ _ (by exact hid)
 have hFr : Fr CDir ow ow w (w.setCell ⟨d, 2, none⟩ (.slice none 0 0)) := by
  refine ⟨rfl, rfl, rfl, by omega, fun i hi hC => keep i ?_, fun _ _ => rfl, fun i hi => Or.inl (hnew i hi)⟩
  rintro rfl
  exact hC (Or.inl ht)
 refine ⟨⟨hB.set_ 2 _, ht, ⟨hm.setCell (by exact map_blk hm hB) _, hmt⟩, ⟨hf.setCell (by exact map_blk hf hB) _, hft⟩, ⟨World.ownsRow_nil _ _ _ _, fun g hg => by cases hg⟩, fun i c hi => by simp at hi, fun f F hF => (hfs f F hF).keep hFr ?_ ?_ ?_ ?_ ?_, fun i hi => hnew i (by omega), Nat.zero_le _, hl2⟩, hFr⟩
 ·rintro (h | h | h | h) <;> cases h
 ·rintro (h | h | h | h) <;> cases h
 ·rintro (h | h | h | h) <;> cases h
 ·rintro (h | h | h | h) <;> cases h
 ·rintro (h | h | h | h) <;> cases h
set_option maxHeartbeats 4000000 in
theorem dsettle_any (w : World) (ow : Nat -> Tag) (d : Nat) (S : DiskS) (h : DiskAt w ow d S) (hok : ∀ (k : Nat) ch, S.dchs[k]? = some ch -> ChOk (doAll (S.dchs.take k) S.safe) ch) (hl : S.lim + S.dchs.length <= 1073741824) :
  Calls Tryz.prog 139 #[.pointer (some ⟨d, 0, none⟩)] w (DAdd w ow d { S with safe := doAll S.dchs S.safe, dchs := [], lim := S.lim + S.dchs.length }) := by
 obtain ⟨ms, mf, vc, dvals, hV⟩ := h
 obtain ⟨Ac, cc, rfl⟩ := own_slice hV.2.2.2.2.1.1
 have c2 : w.cell? ⟨d, 2, none⟩ = some (.slice Ac S.dchs.length cc) := (hV.1.cell 2).trans rfl
 have HV := Lib.hid hV
 have HOK := Lib.hid hok
 have HNEW := Lib.hid hV.new
 clear hV hok
 go_enter Tryz.func139, Tryz.ntmps139
 go_wp2_with fail
 clear c2
 go_loopw [9] (fun i wr => ∃ k : Nat, k <= S.dchs.length /\ i = .int .i64 (k : Int) /\ Hid (DiskV wr ow d { S with safe := doAll (S.dchs.take k) S.safe, lim := S.lim + k } ms mf (.slice Ac S.dchs.length cc) dvals /\ Fr CDir ow ow w wr)) (fun i _ => S.dchs.length - (intOf i).toNat)
 case atStart => exact ⟨0, Nat.zero_le _, rfl, Lib.hid ⟨by simpa [doAll] using HV.out, Fr.refl HNEW.out⟩⟩
 case round =>
  obtain ⟨k, hk, rfl, HR⟩ := hrel
  have HV1 := Lib.hid HR.out.1
  have HF1 := Lib.hid HR.out.2
  clear HR
  by_cases hlt : k < S.dchs.length
  ·obtain ⟨ch, hchk⟩ : ∃ ch, S.dchs[k]? = some ch := ⟨_, List.getElem?_eq_getElem hlt⟩
   obtain ⟨v, hv, hVk⟩ := HV1.out.2.2.2.2.2.1 k ch hchk
   obtain ⟨ty, fn, x, hD⟩ := does_of hVk (HOK.out k ch hchk)
   obtain rfl := hD.iface
   have hat : doAll (S.dchs.take (k + 1)) S.safe = doD (doAll (S.dchs.take k) S.safe) ch := by
    rw [List.take_succ_eq_append_getElem hlt, doAll_snoc]
    rw [Option.some.inj ((List.getElem?_eq_getElem hlt).symm.trans hchk)]
   obtain ⟨g, rfl, hgc⟩ : ∃ g, Ac = some ⟨g, 0, none⟩ /\ wr.cell? ⟨g, k, none⟩ = some (.iface ty x) := by
    have hcc := HV1.out.2.2.2.2.1.1
    have hcl := fun g hg => hcc.cells (g := g) hg k _ hv
    rcases hcc.2 with ⟨_, h0⟩ | ⟨g, cap, cur, hvv, _⟩
    ·have : S.dchs.length = 0 := h0
     omega
    ·injection hvv with h1
     subst h1
     refine ⟨g, rfl, ?_⟩
     have := hcl g rfl
     rwa [add_flat, Nat.zero_add] at this
   have c1 : wr.cell? ⟨d, 1, none⟩ = some (.map (some mf)) := (HV1.out.1.cell 1).trans rfl
   have na := hD.na
   have me := hD.me
   have cf := hD.cf
   have HDO := Lib.hid (hD.calls mf (S.lim + k))
   have HAT := Lib.hid hat
   clear hat hv hchk hVk hD HOK HV
   go_wp2_with fail
   have HM := Lib.hid HV1.out.2.2.2.1.1
   have HBK := Lib.hid HV1.out.1
   generalize doAll (S.dchs.take k) S.safe = L at *
   go_region_with (refine (HDO.out _ (by omega) (HM.out.drew)).mono ?_; rintro e w1 ⟨rfl, hm1, hg1⟩; have H1 : Hid (Blk w1 d 127 _) := (Blk.drew HBK.out).grown hg1 (fun e => map_blk HM.out HBK.out (by injection e with e; exact e.symm)); have d1 : w1.cell? ⟨d, 1, none⟩ = some (.map (some mf)) := (H1.out.cell 1).trans rfl; have e1 := H1.out.frozen 1; have HM1 := Lib.hid hm1; have HG1 : Hid (wr.grownBy w1 (some mf)) := Lib.hid ⟨hg1.os, hg1.tape, hg1.output, hg1.size, hg1.block⟩; clear hm1 hg1)
   all_goals
    have HQ : Hid (DiskV (w1.setCell ⟨d, 1, none⟩ (.map (some mf))) ow d { S with safe := doAll (S.dchs.take (k + 1)) S.safe, lim := S.lim + (k + 1) } ms mf (.slice (some ⟨g, 0, none⟩) S.dchs.length cc) dvals /\ Fr CDir ow ow w (w1.setCell ⟨d, 1, none⟩ (.map (some mf)))) := Lib.hid (by
     have q := dsafe_close (n := S.lim + (k + 1)) HV1.out (Nat.add_le_add_left (Nat.le_succ _) _) (by omega) HM1.out HG1.out
     rw [HAT.out]
     exact ⟨q.1, HF1.out.trans q.2⟩)
    clear hgc na me cf c1 d1 e1 HDO HM HBK H1 HM1 HG1 HF1 HAT HV1
    go_wp2_with fail
    go_roundw
    case rel => exact ⟨k + 1, by omega, by go_num, HQ⟩
    case measure => simp [intOf]; omega
  ·obtain rfl : k = S.dchs.length := by omega
   rw [List.take_length] at HV1
   have c2 : wr.cell? ⟨d, 2, none⟩ = some (.slice Ac S.dchs.length cc) := (HV1.out.1.cell 2).trans rfl
   have f2 := HV1.out.1.frozen 2
   have HQ := Lib.hid (dclear_close HV1.out)
   clear HV HOK HV1
   go_wp2_with fail
   go_end0
   exact ⟨ow, rfl, ⟨ms, mf, _, _, HQ.out.1⟩, HF1.out.trans HQ.out.2⟩
set_option maxHeartbeats 4000000 in
theorem syncdir_any (w : World) (ow : Nat -> Tag) (d : Nat) (S : DiskS) (h : DiskAt w ow d S) (hd : S.dead = false) (hfu : S.fuse = -1) (hop : 0 <= S.ops) (hop2 : S.ops <= 1099511627776) (hok : ∀ (k : Nat) ch, S.dchs[k]? = some ch -> ChOk (doAll (S.dchs.take k) S.safe) ch) (hl : S.lim + S.dchs.length <= 1073741824) :
  Calls Tryz.prog 80 #[.pointer (some ⟨d, 0, none⟩)] w (DOut w ow d { S with safe := doAll S.dchs S.safe, dchs := [], lim := S.lim + S.dchs.length, ops := S.ops + 1 } (.int .i64 0)) := by
 obtain ⟨ms, mf, vc, dvals, hV⟩ := h
 have c6 : w.cell? ⟨d, 6, none⟩ = some (.bool false) := (hV.1.cell 6).trans (by simp [hd])
 have c5 : w.cell? ⟨d, 5, none⟩ = some (.int .i64 (-1)) := (hV.1.cell 5).trans (by simp [hfu])
 have c7 : w.cell? ⟨d, 7, none⟩ = some (.int .i64 S.ops) := (hV.1.cell 7).trans rfl
 have f7 := hV.1.frozen 7
 have hset := disk_set (i := 7) (v := .int .i64 (S.ops + 1)) (S' := { S with ops := S.ops + 1 }) hV rfl rfl rfl rfl rfl rfl
 have HSET := Lib.hid hset
 have HOK := Lib.hid hok
 clear hV hd hfu hset hok
 go_enter Tryz.func80, Tryz.ntmps80
 go_wp2_with (first | (go_at_call 84; go_in) | (go_at_call 137; go_in) | fail)
 refine (dsettle_any _ ow d { S with ops := S.ops + 1 } ⟨ms, mf, vc, dvals, HSET.out.1⟩ HOK.out hl).mono ?_
 rintro e w2 ⟨ow2, rfl, hD2, hF2⟩
 have HD2 := Lib.hid hD2
 have HF2 : Hid (Fr CD ow ow2 w w2) := Lib.hid ((HSET.out.2.mono cd_disk).trans (hF2.mono cd_dir))
 clear hD2 hF2 HSET c5 c6 c7 f7
 go_wp2_with fail
 go_ret
 exact ⟨ow2, rfl, HD2.out, HF2.out⟩
end Go.Proofs.YtendlmdmbkcdnaaGreatDoor.oc
