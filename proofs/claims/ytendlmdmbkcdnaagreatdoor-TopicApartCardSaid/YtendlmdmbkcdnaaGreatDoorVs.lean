/-
  Texts of the proof joined by a program: Tos Toc.
-/
import Derived.Test.YtendlmdmbkcdnaaGreatDoorVr
import Derived.Test.YtendlmdmbkcdnaaGreatDoorVo
import Derived.Deep.DeepCutAuto
set_option linter.unusedSimpArgs false
set_option linter.unusedVariables false
namespace Go.Proofs.YtendlmdmbkcdnaaGreatDoor.tp
open Go.RowKit Go.Maps Go.WideMaps oc rc gh dk sg ma hi kd dd
open Go.Lib (hid)
set_option maxRecDepth 100000
theorem key_of_good {r : Rc} (h : checkN r = 0) : 1 <= r.key.size /\ r.key.size <= 64 := by
 unfold checkN at h
 repeat' split at h
 all_goals first | omega | (rename_i h1 _ _; omega) | (rename_i h1 _; omega) | skip
theorem field_seg (a b c d e f : Int) (s : Bool) (w : World) : (Instr.field 79 (.agg #[.int .i64 a, .int .i64 b, .int .i64 c, .int .i64 d, .int .i64 e, .int .i64 f, .bool s]) 1).run Tryz.prog w = .ok (.int .i64 b) w := by kernel_rfl
theorem field_size (a b c d e f : Int) (s : Bool) (w : World) : (Instr.field 79 (.agg #[.int .i64 a, .int .i64 b, .int .i64 c, .int .i64 d, .int .i64 e, .int .i64 f, .bool s]) 3).run Tryz.prog w = .ok (.int .i64 d) w := by kernel_rfl
theorem field_sealed (a b c d e f : Int) (s : Bool) (w : World) : (Instr.field 79 (.agg #[.int .i64 a, .int .i64 b, .int .i64 c, .int .i64 d, .int .i64 e, .int .i64 f, .bool s]) 6).run Tryz.prog w = .ok (.bool s) w := by kernel_rfl
def noteAll (seg : Int) (T : KT) (l : List Pl) : KT := l.foldl (fun T x => noteT x.r.key (entK seg x) T) T
theorem noteAll_snoc (seg : Int) (T : KT) (l : List Pl) (x : Pl) : noteAll seg T (l ++ [x]) = noteT x.r.key (entK seg x) (noteAll seg T l) := by simp [noteAll]
theorem noteT_count (key : ByteArray) (e : KE) (T : KT) : (noteT key e T).count <= T.count + 1 := by
 unfold noteT
 split
 ·omega
 ·exact withT_count key e T
theorem noteT_short {key : ByteArray} {e : KE} {T : KT} (h : T.short) (hk : key.size <= 64) : (noteT key e T).short := by
 unfold noteT
 split
 ·exact h
 ·exact withT_short hk h
theorem noteAll_ok (seg : Int) : ∀ (l : List Pl) (T : KT), T.short -> (∀ x ∈ l, x.r.key.size <= 64) -> (noteAll seg T l).short /\ (noteAll seg T l).count <= T.count + l.length
 | [], T, h, _ => ⟨h, by simp [noteAll]⟩
 | x :: l, T, h, hk => by
  have := noteAll_ok seg l (noteT x.r.key (entK seg x) T) (noteT_short h (hk x List.mem_cons_self)) fun y hy => hk y (List.mem_cons_of_mem _ hy)
  have h2 := noteT_count x.r.key (entK seg x) T
  refine ⟨this.1, ?_⟩
  have h3 := this.2
  show (noteAll seg (noteT x.r.key (entK seg x) T) l).count <= _
  simp only [List.length_cons]
  omega
def commitS (X : TS) : TS := { X with rs := X.rs ++ X.wr, wr := [], DC := X.DA, T := noteAll X.cur X.T (placed X.wpos X.wr), en := X.en + X.wr.length }
def CRow (τ : Nat) (s : Int) : Tag -> Role -> Prop := fun t r => t = .other /\ (r = some (τ, .dir) \/ r = some (τ, .cached) \/ r = some (τ, .row s))
theorem crow_no {τ : Nat} {s : Int} {pp : Part} (h1 : pp ≠ .dir) (h2 : pp ≠ .cached) (h3 : pp ≠ .row s) : ¬ CRow τ s .other (some (τ, pp)) := by
 rintro ⟨_, e | e | e⟩
 ·injection e with e; injection e with _ e; exact h1 e
 ·injection e with e; injection e with _ e; exact h2 e
 ·injection e with e; injection e with _ e; exact h3 e
theorem crow_none {τ : Nat} {s : Int} : ¬ CRow τ s .other none := by
 rintro ⟨_, e | e | e⟩ <;> cases e
theorem crow_ct {τ : Nat} {s : Int} : ∀ t r, CRow τ s t r -> CT τ t r := fun t r h => by
 rcases h with ⟨h, e | e | e⟩
 ·exact Or.inr ⟨h, _, e⟩
 ·exact Or.inr ⟨h, _, e⟩
 ·exact Or.inr ⟨h, _, e⟩
section
variable {w w' : World} {G G' : Gh} {τ t d : Nat} {X : TS} {q : Int} {fs fs' : List Fil} {no L no' L' : Nat} {p : Pts} {T T' : KT} {R R' : List (Nat × List Rc)} {m : Nat} {s : Int} {CD' : DataW Unit}
theorem TopG.round (h : TopG w G τ t d X q fs no L p T R m) (hF : Fx (CRow τ s) G G' w w') (hf : Fin G' w') (hn : G'.ow = G.ow) (hd : DirR w' G' τ p.c.dir T') (hc : MapR w' G' 3 slR p.c.cached (p.cn + 1) CD' (some (τ, .cached))) (hr : ∀ s l, (s, l) ∈ R' -> RowAt w' G' τ CD' s l) :
  TopG w' G' τ t d X q fs no L { p with cn := p.cn + 1, CD := CD' } T' R' (m + 1) :=
 { h with
  top := h.top.keep hF (crow_no (by simp) (by simp) (by simp))
  segs := ints_keep h.segs h.cold hF crow_none
  cold := h.cold.keep hF
  seg := h.seg.keep hF (crow_no (by simp) (by simp) (by simp)) (crow_no (by simp) (by simp) (by simp)) (crow_no (by simp) (by simp) (by simp))
  dir := hd
  tab := h.tab.keep hF (crow_no (by simp) (by simp) (by simp)) (crow_no (by simp) (by simp) (by simp))
  all := h.all.keep hF (crow_no (by simp) (by simp) (by simp)) (crow_no (by simp) (by simp) (by simp))
  waits := h.waits.keep hF (crow_no (by simp) (by simp) (by simp))
  cached := hc
  rows := hr
  dk := h.dk.keep hF (fun _ _ x => x.1) (fun i hi => by rw [hn]; exact (h.fin i hi).1)
  fin := hf
  tg := h.tg.keep hF crow_none
  cn1 := Nat.succ_le_succ h.cn1 }
theorem TopG.ck (h : TopG w G τ t d X q fs no L p T R m) (hF : Fx CK G G' w w') (hf : Fin G' w') (hk : DK w' G' d q fs' no' L') : TopG w' G' τ t d X q fs' no' L' p T R m :=
 { h with
  top := h.top.keep hF ck_other
  segs := ints_keep h.segs h.cold hF ck_other
  cold := h.cold.keep hF
  seg := h.seg.ck hF
  dir := h.dir.keep hF ck_other ck_other
  tab := h.tab.keep hF ck_other ck_other
  all := h.all.keep hF ck_other ck_other
  waits := h.waits.keep hF ck_other
  cached := h.cached.keep hF ck_other
  rows := fun s l hs => (h.rows s l hs).keep hF ck_other
  dk := hk
  fin := hf
  tg := h.tg.keep hF ck_other }
end
structure CmH (X : TS) (fs : List Fil) (x : Fil) (l : List Fil) : Prop where
 offs : ∀ k r, X.wr[k]? = some r -> r.off = ((X.en + k : Nat) : Int)
 good : ∀ r ∈ X.wr, checkN r = 0
 short : X.T.short
 count : X.T.count <= X.en
 en : X.en + X.wr.length <= 1073741824
 i : X.i < 1073741824
 cur : X.cur < 1073741823
 wl : X.wr.length <= 65536
 rl : X.rs.length <= 65536
 olds : ∀ o ∈ X.old, o.num ≠ X.cur
 size : (X.wpos + (bodyR X.wr).length) <= 1073741824
 da : Maps.size X.DA <= 64
 perm : fs.Perm (x :: l)
 name : x.name = Sb (nameN X.i X.cur)
 oldn : ∀ o ∈ X.old, o.num <= 1073741824
theorem placed_put (a0 a1 a2 a3 a4 a5 a6 a7 a8 b0 b1 b2 b3 b4 b5 b6 b7 b8 : Value) : putFrom #[b0, b1, b2, b3, b4, b5, b6, b7, b8] 0 [a0, a1, a2, a3, a4, a5, a6, a7, a8] = #[a0, a1, a2, a3, a4, a5, a6, a7, a8] := by simp [putFrom]
abbrev PhW (b : Nat) (cs : Array Value) : World -> Prop := fun W => Blk W b 135 cs
theorem infoPl : (Tryz.prog.info? 86).map (fun i => (i.zero, i.size, i.bytes)) = some (some (.agg #[.int .i64 0, .int .i64 0, .int .i64 0, .int .i64 0, .int .i64 0, .string ⟨#[]⟩, .string ⟨#[]⟩, .int .i64 0, .int .i64 0]), 9, 88) := by kernel_rfl
abbrev PhM (t b7 : Nat) (cs ps : Array Value) (m : Nat) (CD : DataW Unit) (n : Nat) : World -> Prop := fun W => Blk W t 110 cs /\ Blk W b7 86 ps /\ W.ownsMap Tryz.prog 3 slR m n CD
theorem meas_lt {n k : Nat} {v v' : Value} {x : Int} (hv : (v, v') = (Value.int .i64 x, Value.int .i64 (k : Int))) (hx : x = ((k + 1 : Nat) : Int)) (h : k < n) : n - (intOf v).toNat < n - (intOf v').toNat := by
 injection hv with h1 h2
 subst h1 h2 hx
 show n - ((k + 1 : Nat) : Int).toNat < n - ((k : Nat) : Int).toNat
 rw [Int.toNat_natCast, Int.toNat_natCast]
 omega
theorem commitS_seg (X : TS) : (commitS X).seg = X.seg := by simp [commitS, TS.seg]
theorem isKeyLit_int {n : Int} : WideAt.IsKeyLit (.int .i64 n) := trivial
set_option maxHeartbeats 16000000 in
theorem commit_some (w : World) (G : Gh) (τ t d : Nat) (X : TS) (q : Int) (fs : List Fil) (no L : Nat) (h : TopAt w G τ t d X q fs no L) (x : Fil) (l : List Fil) (H : CmH X fs x l) (hw : X.wr ≠ []) (hno : no <= 1099511627776) :
  Calls Tryz.prog 30 #[.pointer (some ⟨t, 0, none⟩)] w fun e w' => e = .returned (.int .i64 0) /\ ∃ G', TopAt w' G' τ t d (commitS X) q (⟨x.name, x.blk, fSync x.st⟩ :: l) (no + 1) L /\ Fx (CT τ) G G' w w' := by
 obtain ⟨p, h⟩ := h
 have hwl : 0 < X.wr.length := List.length_pos_iff.2 hw
 have c21 : w.cell? ⟨t, 21, none⟩ = some (.bool false) := (h.top.cell 21).trans (by rw [<- h.egone]; rfl)
 have c15 : w.cell? ⟨t, 15, none⟩ = some (.slice p.c.wA X.wr.length p.c.wc) := (h.top.cell 15).trans (by rw [<- h.ewn]; rfl)
 have c11 : w.cell? ⟨t, 11, none⟩ = some (.pointer (some ⟨p.g, 0, none⟩)) := (h.top.cell 11).trans (by rw [<- h.eseg]; rfl)
 have g0 : ((X.wr.length : Int) == 0) = false := by simp; omega
 have HTV := hid h
 have HH := hid H
 have HWL := hid hwl
 have HNO := hid hno
 clear h H hw hwl hno
 go_enter Tryz.func30, Tryz.ntmps30
 go_wp2_with fail
 refine (sync_any w G τ p.g d X.seg q x l no L HTV.out.seg HTV.out.tg.1 (okn HH.out.i) (okn (by have := HH.out.cur; omega)) (HTV.out.dk.perm HH.out.perm) HTV.out.fin HNO.out HH.out.name).mono ?_
 rintro e w1 ⟨G1, rfl, hk1, hx1, hf1, hr1⟩
 have HX1 := hid hx1
 have HT1 := hid (HTV.out.ck hx1 hf1 hk1)
 obtain ⟨gw, capw, hvw, _, _⟩ := HTV.out.waits.1.form (by rw [HTV.out.ewn]; exact HWL.out)
 injection hvw with hwA _ _
 have HWA := hid hwA
 have c11' : w1.cell? ⟨t, 11, none⟩ = some (.pointer (some ⟨p.g, 0, none⟩)) := (HT1.out.top.cell 11).trans (by rw [<- HTV.out.eseg]; rfl)
 have c15' : w1.cell? ⟨t, 15, none⟩ = some (.slice (some ⟨gw, 0, none⟩) X.wr.length p.c.wc) := (HT1.out.top.cell 15).trans (by rw [<- HTV.out.ewn, <- HWA.out]; rfl)
 clear hx1 hf1 hk1 hr1 c21 c15 c11 hwA
 go_wp2_with fail
 refine (info_any w1 G1 τ p.g d X.seg HT1.out.seg).mono ?_
 rintro e w2 ⟨rfl, hb2⟩
 have HB2 := hid hb2
 have HT2 := hid (HT1.out.below hb2)
 have c15 : w2.cell? ⟨t, 15, none⟩ = some (.slice (some ⟨gw, 0, none⟩) X.wr.length p.c.wc) := (HT2.out.top.cell 15).trans (by rw [<- HTV.out.ewn, <- HWA.out]; rfl)
 have HX2 : Hid (Fx (CT τ) G G1 w w2) := hid ((HX1.out.mono ct_k).trans (Fx.below hb2))
 clear hb2 c11' c15' g0
 have hfd := fun a b c d e f s => field_seg a b c d e f s
 unfold TS.seg Inf.cells
 go_wp2_with fail
 clear hfd c15
 go_loopw [6, 7, 42] (fun _ _ i wr => ∃ (k : Nat) (cn : Nat) (CD : DataW Unit) (Gr : Gh), k <= X.wr.length /\ i = .int .i64 (k : Int) /\ Hid (TopG wr Gr τ t d X q (⟨x.name, x.blk, fSync x.st⟩ :: l) (no + 1) L { p with cn := cn, CD := CD } (noteAll X.cur X.T (placed X.wpos (X.wr.take k))) (X.old.map (fun o => (o.num, o.recs)) ++ [(X.cur, X.rs ++ X.wr.take k)]) (X.en + X.cur + k)) /\ Hid (Fx (CT τ) G Gr w wr)) (fun _ _ i _ => X.wr.length - (intOf i).toNat)
 case atStart =>
  refine ⟨0, p.cn, p.CD, G1, Nat.zero_le _, rfl, ?_, HX2⟩
  have := HT2.out
  exact hid (by simpa [noteAll, placed, TS.rows] using this)
 case round =>
  obtain ⟨k, cn, CD, Gr, hk, rfl, HT, HX⟩ := hrel
  by_cases hlt : k < X.wr.length
  ·obtain ⟨r, hr⟩ : ∃ r, X.wr[k]? = some r := ⟨_, List.getElem?_eq_getElem hlt⟩
   have HR := hid hr
   have HLT : Hid (k < X.wr.length) := hid hlt
   have hpl := waits_get X.wpos X.wr k r hr
   obtain ⟨pos, hpos⟩ : ∃ n, X.wpos + (bodyR (X.wr.take k)).length = n := ⟨_, rfl⟩
   rw [hpos] at hpl
   have HPOS := hid hpos
   have hkc := HT.out.waits.1.cells (g := gw) (by simp only [Value.ownBlock]; rw [HWA.out])
   have e0 : wr.cell? ⟨gw, k * 8, none⟩ = some (.int .i64 r.kind) := by
    have := hkc (k * 8 + 0) _ (flat_get wtC 8 (fun _ => rfl) (waitsAt X.wpos X.wr) k 0 _ _ hpl rfl)
    rw [add_flat, Nat.zero_add] at this
    exact this
   have ee : ∀ (j : Nat) (v : Value), (wtC ⟨r, (pos : Int)⟩)[j]? = some v -> wr.cell? ⟨gw, k * 8 + j, none⟩ = some v := fun j v hj => by
    have := hkc (k * 8 + j) v (flat_get wtC 8 (fun _ => rfl) (waitsAt X.wpos X.wr) k j _ v hpl hj)
    rw [add_flat, Nat.zero_add] at this
    exact this
   have e1 := ee 1 _ rfl
   have e2 := ee 2 _ rfl
   have e3 := ee 3 _ rfl
   have e4 := ee 4 _ rfl
   have e5 := ee 5 _ rfl
   have e6 := ee 6 _ rfl
   have e7 := ee 7 _ rfl
   have hwA := HWA.out
   obtain ⟨x0, x1, x2, x3, x4, x5, x6⟩ := r
   dsimp only at e0 e1 e2 e3 e4 e5 e6 e7
   have i42 : IntKind.i64.wrap ((k : Int) + 1) = (k : Int) + 1 := by have := HH.out.wl; rw [IntKind.wrap_i64]; omega
   rw [hwA]
   clear ee hkc hpl hr hpos hwA
   go_wp2_with fail
   clear e0 e1 e2 e3 e4 e5 e6 e7
   have HI42 := hid i42
   clear i42
   obtain ⟨W1, hW1⟩ : ∃ y, wr.alloc (.cells #[.int .i64 x0, .int .i64 x1, .int .i64 x2, .int .i64 x3, .int .i64 x4, .string x5, .string x6, .int .i64 (pos : Int)] 135) = y := ⟨_, rfl⟩
   have HB1 : Hid (Below wr.heap.size wr W1) := by rw [<- hW1]; exact hid ((Below.refl _ _).alloc (Nat.le_refl _) _)
   have HN1 : Hid (Blk W1 wr.heap.size 135 #[.int .i64 x0, .int .i64 x1, .int .i64 x2, .int .i64 x3, .int .i64 x4, .string x5, .string x6, .int .i64 (pos : Int)]) := by rw [<- hW1]; exact hid (Blk.new wr _ _)
   simp only [hW1]
   clear hW1
   have HSZ := hid (fun W => size_any W (⟨x0, x1, x2, x3, x4, x5, x6⟩ : Rc))
   obtain ⟨sz, hsz⟩ : ∃ n, (encR (⟨x0, x1, x2, x3, x4, x5, x6⟩ : Rc)).length = n := ⟨_, rfl⟩
   rw [hsz] at HSZ
   have HZ := hid hsz
   clear hsz
   go_cut [7] (fun v wx => ∃ b7, v = .pointer (some ⟨b7, 0, none⟩) /\ Hid (wr.heap.size <= b7) /\ Hid (Blk wx b7 86 #[.int .i64 x0, .int .i64 x1, .int .i64 x2, .int .i64 x3, .int .i64 x4, .string x5, .string x6, .int .i64 (pos : Int), .int .i64 (sz : Int)]) /\ Hid (Below wr.heap.size wr wx))
   case first =>
    refine wp_region_head 9 (PhW wr.heap.size #[.int .i64 x0, .int .i64 x1, .int .i64 x2, .int .i64 x3, .int .i64 x4, .string x5, .string x6, .int .i64 (pos : Int)]) (by kernel_rfl) (by kernel_rfl) (fun w3 hh3 hb3 => ?_)
    have HB3 : Hid (Below W1.heap.size W1 w3) := hid hb3
    have HP3 := hid (HN1.out.below hb3 HN1.out.lt : PhW wr.heap.size #[.int .i64 x0, .int .i64 x1, .int .i64 x2, .int .i64 x3, .int .i64 x4, .string x5, .string x6, .int .i64 (pos : Int)] w3)
    have hne0 : Nonempty (Held (PhW wr.heap.size #[.int .i64 x0, .int .i64 x1, .int .i64 x2, .int .i64 x3, .int .i64 x4, .string x5, .string x6, .int .i64 (pos : Int)])) := ⟨⟨_, HP3.out⟩⟩
    have k7 : ∀ p : Held (PhW wr.heap.size #[.int .i64 x0, .int .i64 x1, .int .i64 x2, .int .i64 x3, .int .i64 x4, .string x5, .string x6, .int .i64 (pos : Int)]), p.w.cell? ⟨wr.heap.size, 7, none⟩ = some (.int .i64 (pos : Int)) := fun p => (p.h.cell 7).trans rfl
    have kE : ∀ w' : World, (∃ p : Held (PhW wr.heap.size #[.int .i64 x0, .int .i64 x1, .int .i64 x2, .int .i64 x3, .int .i64 x4, .string x5, .string x6, .int .i64 (pos : Int)]), w' = p.w) -> ∀ (j : Nat) (v : Value), ([.int .i64 x0, .int .i64 x1, .int .i64 x2, .int .i64 x3, .int .i64 x4, .string x5, .string x6] : List Value)[j]? = some v -> w'.cell? (Addr.add ⟨wr.heap.size, 0, none⟩ j) = some v := by
     rintro w' ⟨p, rfl⟩ j v hj
     rw [add_flat, Nat.zero_add, p.h.cell, <- hj]
     rcases j with _ | _ | _ | _ | _ | _ | _ | j <;> first | rfl | simp at hj
    clear hh3 hb3
    refine headI_batch 0 6 (by kernel_rfl) (by kernel_rfl) HP3.out ?_
    simp only [List.take, List.drop]
    repeat (first | go_big_quiet_skip | (with_reducible refine wpQuiet_load_list (o := ⟨some 47, .load 47 (.tmp 46), _, _, _, _⟩) rfl 47 (.tmp 46) rfl ⟨wr.heap.size, 0, none⟩ rfl [.int .i64 x0, .int .i64 x1, .int .i64 x2, .int .i64 x3, .int .i64 x4, .string x5, .string x6] kE _ Tryz.underlying47 rfl (by kernel_rfl) ?_; simp only [Act.put, List.setIfInBounds_toArray, List.set_cons_succ, List.set_cons_zero]) | (with_reducible refine wpQuiet_load_list (o := ⟨some 51, .load 47 (.tmp 50), _, _, _, _⟩) rfl 47 (.tmp 50) rfl ⟨wr.heap.size, 0, none⟩ rfl [.int .i64 x0, .int .i64 x1, .int .i64 x2, .int .i64 x3, .int .i64 x4, .string x5, .string x6] kE _ Tryz.underlying47 rfl (by kernel_rfl) ?_; simp only [Act.put, List.setIfInBounds_toArray, List.set_cons_succ, List.set_cons_zero]) | (go_big_quiet_want; go_big_quiet_op; go_big_quiet_on))
    refine wpQuiet_nil ?_
    clear k7 kE
    refine headI_loud2 6 8 (by kernel_rfl) (by kernel_rfl) HP3.out ?_ ?_
    ·simp only [List.take, List.drop]
     go_wp2_with fail
     refine (HSZ.out w3).mono ?_
     rintro e w4 ⟨rfl, hb4⟩
     have HB4 := hid hb4
     have HP4 : Hid (PhW wr.heap.size #[.int .i64 x0, .int .i64 x1, .int .i64 x2, .int .i64 x3, .int .i64 x4, .string x5, .string x6, .int .i64 (pos : Int)] w4) := hid (HP3.out.below hb4 HP3.out.lt)
     clear hb4
     go_wp2_with fail
     refine ⟨rfl, ?_⟩
     refine headI_batch 7 1 (by kernel_rfl) (by kernel_rfl) HP4.out ?_
     simp only [List.take, List.drop]
     repeat (first | go_big_quiet_skip | (go_big_quiet_want; go_big_quiet_op; go_big_quiet_on))
     refine wpQuiet_nil ?_
     refine headI_loud 8 (by kernel_rfl) (by kernel_rfl) HP4.out ?_
     simp only [List.take, List.drop]
     go_wp2_with fail
     refine ⟨rfl, ?_⟩
     have HBX : Hid (Below wr.heap.size wr w4) := hid (HB1.out.trans ((HB3.out.trans (HB4.out.mono HB3.out.size)).mono HB1.out.size))
     refine headI_end (by kernel_rfl) (HP4.out.alloc _) ?_
     simp only [List.take, List.drop]
     go_wp2_with (first
      | ((with_reducible refine at_op ⟨none, .store 86 (.tmp 7) (.tmp 53), _, _, _, _⟩ ?_); refine wpList_store_blk rfl 86 (.tmp 7) (.tmp 53) rfl w4.heap.size 0 rfl [.int .i64 x0, .int .i64 x1, .int .i64 x2, .int .i64 x3, .int .i64 x4, .string x5, .string x6, .int .i64 (pos : Int), .int .i64 (sz : Int)] rfl (by simp [Value.oneCell']) 86 _ (Blk.new w4 _ _) (by simp) (by kernel_rfl) ?_; intro w9 hT9 hg9 _; rw [placed_put] at hT9; have HT9 : Hid (Blk w9 (w4.heap.size) 86 #[.int .i64 x0, .int .i64 x1, .int .i64 x2, .int .i64 x3, .int .i64 x4, .string x5, .string x6, .int .i64 (pos : Int), .int .i64 (sz : Int)]) := hid hT9; clear hT9)
      | fail)
     go_meet
     exact ⟨w4.heap.size, rfl, hid HBX.out.size, HT9, hid ((HBX.out.alloc HBX.out.size _).grown hg9 (Nat.le_trans HBX.out.size (by simp)) (fun k hk => by injection hk with hk; have h1 := HBX.out.size; clear hg9; omega))⟩
    ·simp only [List.take, List.drop]
     go_wp2_with fail
     refine ⟨rfl, ?_⟩
     refine headI_loud 6 (by kernel_rfl) (by kernel_rfl) (HP3.out.alloc _) ?_
     simp only [List.take, List.drop]
     go_wp2_with fail
     refine (HSZ.out _).mono ?_
     rintro e w4 ⟨rfl, hb4⟩
     have HN4 := hid ((Blk.new w3 86 #[.int .i64 0, .int .i64 0, .int .i64 0, .int .i64 0, .int .i64 0, .string ⟨#[]⟩, .string ⟨#[]⟩, .int .i64 0, .int .i64 0]).below hb4 (by simp))
     have HP4 : Hid (PhW wr.heap.size #[.int .i64 x0, .int .i64 x1, .int .i64 x2, .int .i64 x3, .int .i64 x4, .string x5, .string x6, .int .i64 (pos : Int)] w4) := hid ((HP3.out.alloc _).below hb4 (HP3.out.alloc _).lt)
     have HBX : Hid (Below wr.heap.size wr w4 /\ wr.heap.size <= w3.heap.size) := hid ⟨HB1.out.trans ((HB3.out.trans ((((Below.refl _ _).alloc (Nat.le_refl _) _).trans (hb4.mono (by simp))).mono HB3.out.size)).mono HB1.out.size), Nat.le_trans HB1.out.size HB3.out.size⟩
     clear hb4
     go_wp2_with fail
     refine ⟨rfl, ?_⟩
     refine headI_batch 7 1 (by kernel_rfl) (by kernel_rfl) HP4.out ?_
     simp only [List.take, List.drop]
     repeat (first | go_big_quiet_skip | (go_big_quiet_want; go_big_quiet_op; go_big_quiet_on))
     refine wpQuiet_nil ?_
     refine headI_end (by kernel_rfl) HP4.out ?_
     simp only [List.take, List.drop]
     go_wp2_with (first
      | ((with_reducible refine at_op ⟨none, .store 86 (.tmp 7) (.tmp 53), _, _, _, _⟩ ?_); refine wpList_store_blk rfl 86 (.tmp 7) (.tmp 53) rfl w3.heap.size 0 rfl [.int .i64 x0, .int .i64 x1, .int .i64 x2, .int .i64 x3, .int .i64 x4, .string x5, .string x6, .int .i64 (pos : Int), .int .i64 (sz : Int)] rfl (by simp [Value.oneCell']) 86 _ HN4.out (by simp) (by kernel_rfl) ?_; intro w9 hT9 hg9 _; rw [placed_put] at hT9; have HT9 : Hid (Blk w9 (w3.heap.size) 86 #[.int .i64 x0, .int .i64 x1, .int .i64 x2, .int .i64 x3, .int .i64 x4, .string x5, .string x6, .int .i64 (pos : Int), .int .i64 (sz : Int)]) := hid hT9; clear hT9)
      | fail)
     go_meet
     exact ⟨w3.heap.size, rfl, hid HBX.out.2, HT9, hid (HBX.out.1.grown hg9 HBX.out.1.size (fun k hk => by injection hk with hk; have h1 := HBX.out.2; clear hg9; omega))⟩
   case rest =>
    obtain ⟨b7, rfl, HL7, HB7, HBC⟩ := hcut
    have HTc := hid (HT.out.below HBC.out)
    have HDL : Hid (p.c.dir < wr.heap.size /\ t < wr.heap.size) := hid ⟨by obtain ⟨⟨_, hbd, _⟩, _⟩ := HT.out.dir; exact hbd.lt, HT.out.top.1.lt⟩
    have hrg : checkN (⟨x0, x1, x2, x3, x4, x5, x6⟩ : Rc) = 0 := HH.out.good _ (List.mem_of_getElem? HR.out)
    have hky := key_of_good hrg
    have hnk := noteAll_ok X.cur (placed X.wpos (X.wr.take k)) X.T HH.out.short (fun y hy => by
     have : y.r ∈ (placed X.wpos (X.wr.take k)).map (·.r) := List.mem_map.2 ⟨y, hy, rfl⟩
     rw [placed_r] at this
     exact (key_of_good (HH.out.good _ (List.mem_of_mem_take this))).2)
    have HNT := hid (tnote_any wc (fun i => Is Gr i none) (fun i hi => HTc.out.fin i hi) t p.c (noteAll X.cur X.T (placed X.wpos (X.wr.take k))) HTc.out.top.1 HTc.out.dir.1 (fun h => by have := h.2.symm.trans HTc.out.dir.2.2; cases this) hnk.1 (by have := hnk.2; rw [placed_len] at this; have := HH.out.count; have := HH.out.en; simp at *; omega) (X.cur : Int) (⟨⟨x0, x1, x2, x3, x4, x5, x6⟩, (pos : Int), (sz : Int)⟩ : Pl) hky.1 hky.2)
    have kP : ∀ (j : Nat) (v : Value), ([.int .i64 x0, .int .i64 x1, .int .i64 x2, .int .i64 x3, .int .i64 x4, .string x5, .string x6, .int .i64 (pos : Int), .int .i64 (sz : Int)] : List Value)[j]? = some v -> wc.cell? (Addr.add ⟨b7, 0, none⟩ j) = some v := by
     intro j v hj
     rw [add_flat, Nat.zero_add, HB7.out.cell, <- hj]
     rcases j with _ | _ | _ | _ | _ | _ | _ | _ | _ | j <;> first | rfl | simp at hj
    have KP := hid kP
    clear hrg hky hnk kP
    go_wp2_with (first
     | ((with_reducible refine at_op ⟨_, .load 86 (.tmp 7), _, _, _, _⟩ ?_); refine wpList_load_list rfl 86 (.tmp 7) rfl ⟨b7, 0, none⟩ rfl [.int .i64 x0, .int .i64 x1, .int .i64 x2, .int .i64 x3, .int .i64 x4, .string x5, .string x6, .int .i64 (pos : Int), .int .i64 (sz : Int)] KP.out _ Tryz.underlying86 rfl (by kernel_rfl) ?_)
     | fail)
    refine HNT.out.mono ?_
    rintro e w5 ⟨rfl, hd5, hg5⟩
    have HX5 : Hid (Fx (CR (some (τ, .dir))) Gr Gr wc w5) := hid (Fx.grown hg5 HTc.out.dir.2)
    have HD5 := hid hd5
    have HB5 : Hid (Blk w5 b7 86 #[.int .i64 x0, .int .i64 x1, .int .i64 x2, .int .i64 x3, .int .i64 x4, .string x5, .string x6, .int .i64 (pos : Int), .int .i64 (sz : Int)]) := hid (HB7.out.grown hg5 (by intro e; injection e with e; have h1 := HL7.out; have h2 := HDL.out.1; omega))
    clear hd5 hg5 HNT KP
    go_wp2_with fail
    have hrw := HTc.out.rows X.cur (X.rs ++ X.wr.take k) (by simp)
    obtain ⟨o, A, cp, ho, hat, hrow⟩ := hrw
    have HO := hid ho
    have HAT := hid hat
    have HROW := hid hrow
    have HC5 := hid (HTc.out.cached.keep HX5.out (by rintro ⟨_, e⟩; cases e))
    have HT5 := hid (HTc.out.top.keep HX5.out (by rintro ⟨_, e⟩; cases e))
    have HROW5 := hid (hrow.keep HX5.out (by rintro ⟨_, e⟩; cases e))
    have HF5 : Hid (Fin Gr w5) := hid (HTc.out.fin.more HX5.out.size)
    obtain ⟨nl, hnl⟩ : ∃ n, (X.rs ++ X.wr.take k).length = n := ⟨_, rfl⟩
    have HNL := hid hnl
    have HNB : Hid (nl <= 131072) := hid (by have h1 := HH.out.wl; have h2 := HH.out.rl; rw [<- hnl]; simp; omega)
    rw [hnl] at ho hrow
    have HO' := hid ho
    have HROW5' : Hid (RowR w5 Gr 86 9 (.slice A nl cp) nl ((placed 21 (X.rs ++ X.wr.take k)).flatMap plC) (some (τ, .row X.cur))) := by have h1 := HROW5.out; rw [hnl] at h1; exact hid h1
    clear ho hat hrow hnl
    obtain ⟨i9, hi9, hz90, hz91, hz92⟩ := info_parts infoPl
    refine wp_region_head 14 (PhM t b7 p.c.cells #[.int .i64 x0, .int .i64 x1, .int .i64 x2, .int .i64 x3, .int .i64 x4, .string x5, .string x6, .int .i64 (pos : Int), .int .i64 (sz : Int)] p.c.cached CD cn) (by kernel_rfl) (by kernel_rfl) (fun w6 hh6 hb6 => ?_)
    have HB6 : Hid (Below w5.heap.size w5 w6) := hid hb6
    have HROW6 := hid (HROW5'.out.keep (C := CN) (Fx.below hb6) (fun h => h))
    have HC6 := hid (HC5.out.keep (C := CN) (Fx.below hb6) (fun h => h))
    have HP6 := hid (⟨HT5.out.1.below hb6 HT5.out.1.lt, HB5.out.below hb6 HB5.out.lt, HC6.out.1⟩ : PhM t b7 p.c.cells #[.int .i64 x0, .int .i64 x1, .int .i64 x2, .int .i64 x3, .int .i64 x4, .string x5, .string x6, .int .i64 (pos : Int), .int .i64 (sz : Int)] p.c.cached CD cn w6)
    have hne0 : Nonempty (Held (PhM t b7 p.c.cells #[.int .i64 x0, .int .i64 x1, .int .i64 x2, .int .i64 x3, .int .i64 x4, .string x5, .string x6, .int .i64 (pos : Int), .int .i64 (sz : Int)] p.c.cached CD cn)) := ⟨⟨_, HP6.out⟩⟩
    have k20 : ∀ p' : Held (PhM t b7 p.c.cells #[.int .i64 x0, .int .i64 x1, .int .i64 x2, .int .i64 x3, .int .i64 x4, .string x5, .string x6, .int .i64 (pos : Int), .int .i64 (sz : Int)] p.c.cached CD cn), p'.w.cell? ⟨t, 20, none⟩ = some (.map (some p.c.cached)) := fun p' => (p'.h.1.cell 20).trans rfl
    have klk : ∀ p' : Held (PhM t b7 p.c.cells #[.int .i64 x0, .int .i64 x1, .int .i64 x2, .int .i64 x3, .int .i64 x4, .string x5, .string x6, .int .i64 (pos : Int), .int .i64 (sz : Int)] p.c.cached CD cn), (Instr.lookup 108 (.map (some p.c.cached)) (.int .i64 (X.cur : Int)) false).run Tryz.prog p'.w = .ok (.slice A nl cp) p'.w := fun p' => by
     have h1 := look_row p'.h.2.2 (s := (X.cur : Int)) (by omega) (by have h2 := HH.out.cur; omega) HAT.out
     rw [HO'.out] at h1
     exact h1
    have kE : ∀ w' : World, (∃ p' : Held (PhM t b7 p.c.cells #[.int .i64 x0, .int .i64 x1, .int .i64 x2, .int .i64 x3, .int .i64 x4, .string x5, .string x6, .int .i64 (pos : Int), .int .i64 (sz : Int)] p.c.cached CD cn), w' = p'.w) -> ∀ (j : Nat) (v : Value), ([.int .i64 x0, .int .i64 x1, .int .i64 x2, .int .i64 x3, .int .i64 x4, .string x5, .string x6, .int .i64 (pos : Int), .int .i64 (sz : Int)] : List Value)[j]? = some v -> w'.cell? (Addr.add ⟨b7, 0, none⟩ j) = some v := by
     rintro w' ⟨p', rfl⟩ j v hj
     rw [add_flat, Nat.zero_add, p'.h.2.1.cell, <- hj]
     rcases j with _ | _ | _ | _ | _ | _ | _ | _ | _ | j <;> first | rfl | simp at hj
    clear hh6 hb6
    refine headI_batch 0 12 (by kernel_rfl) (by kernel_rfl) HP6.out ?_
    simp only [List.take, List.drop]
    repeat (first | go_big_quiet_skip | (with_reducible refine wpQuiet_load_list (o := ⟨some 69, .load 86 (.tmp 7), _, _, _, _⟩) rfl 86 (.tmp 7) rfl ⟨b7, 0, none⟩ rfl [.int .i64 x0, .int .i64 x1, .int .i64 x2, .int .i64 x3, .int .i64 x4, .string x5, .string x6, .int .i64 (pos : Int), .int .i64 (sz : Int)] kE _ Tryz.underlying86 rfl (by kernel_rfl) ?_; simp only [Act.put, List.setIfInBounds_toArray, List.set_cons_succ, List.set_cons_zero]) | (go_big_quiet_want; go_big_quiet_op; go_big_quiet_on))
    refine wpQuiet_nil ?_
    clear k20 klk kE
    refine headI_loud 12 (by kernel_rfl) (by kernel_rfl) HP6.out ?_
    simp only [List.take, List.drop]
    go_wp2_with fail
    refine ⟨rfl, ?_⟩
    have HP7 : Hid (PhM t b7 p.c.cells #[.int .i64 x0, .int .i64 x1, .int .i64 x2, .int .i64 x3, .int .i64 x4, .string x5, .string x6, .int .i64 (pos : Int), .int .i64 (sz : Int)] p.c.cached CD cn (w6.alloc (.cells #[.int .i64 x0, .int .i64 x1, .int .i64 x2, .int .i64 x3, .int .i64 x4, .string x5, .string x6, .int .i64 (pos : Int), .int .i64 (sz : Int)] 86))) := hid ⟨HP6.out.1.alloc _, HP6.out.2.1.alloc _, HP6.out.2.2.alloc _⟩
    refine headI_loud 13 (by kernel_rfl) (by kernel_rfl) HP7.out ?_
    simp only [List.take, List.drop]
    have HMX : Hid (nl + 1 <= maxLen) := hid (by have h1 := HNB.out; unfold maxLen; omega)
    have HLM : Hid ((nl + 1) * 88 <= 140737488355328) := hid (by have h1 := HNB.out; omega)
    go_wp2_with (first
     | (at_builtin; go_must (refine wpList_append_own_at _ rfl _ _ 80 rfl 0 86 i9 _ 9 88 Tryz.underlying80 hi9 hz90 hz91 hz92 rfl (by decide) (.slice A nl cp) nl _ rfl (HROW6.out.1.alloc _) ⟨w6.heap.size, 0, none⟩ 1 1 [.int .i64 x0, .int .i64 x1, .int .i64 x2, .int .i64 x3, .int .i64 x4, .string x5, .string x6, .int .i64 (pos : Int), .int .i64 (sz : Int)] rfl rfl (by exact Go.Proofs.YtendlmdmbkcdnaaGreatDoor.dd.cells_new w6 86 [.int .i64 x0, .int .i64 x1, .int .i64 x2, .int .i64 x3, .int .i64 x4, .string x5, .string x6, .int .i64 (pos : Int), .int .i64 (sz : Int)]) (by simp [Value.oneCell']) HMX.out HLM.out (Nat.zero_le _) ?_; intro v8 w8 hown8 hgr8 _ hloc8; have HO8 := hid hown8; have HG8 := hid hgr8; have HL8 := hid hloc8; clear hown8 hgr8 hloc8))
     | fail)
    refine ⟨rfl, ?_⟩
    obtain ⟨A8, c8, rfl⟩ := own_slice HO8.out
    obtain ⟨G8, hrow8, hx8, hf8, hn8⟩ := row_app HROW6.out ((Below.refl _ _).alloc (Nat.le_refl _) (.cells #[.int .i64 x0, .int .i64 x1, .int .i64 x2, .int .i64 x3, .int .i64 x4, .string x5, .string x6, .int .i64 (pos : Int), .int .i64 (sz : Int)] 86)) HG8.out HO8.out (Nat.succ_pos _) HL8.out (HF5.out.more HB6.out.size)
    obtain ⟨g8, cap8, hv8, _, _⟩ := hrow8.1.form (Nat.succ_pos _)
    injection hv8 with hA8 _ _
    subst hA8
    have HR8 := hid hrow8
    have HX8 : Hid (Fx (CR (some (τ, .row X.cur))) Gr G8 w6 w8) := hid hx8
    have HF8 := hid hf8
    have HN8 := hid hn8
    have HC8 := hid (HC6.out.keep hx8 (by rintro ⟨_, e⟩; cases e))
    have HP8 : Hid (PhM t b7 p.c.cells #[.int .i64 x0, .int .i64 x1, .int .i64 x2, .int .i64 x3, .int .i64 x4, .string x5, .string x6, .int .i64 (pos : Int), .int .i64 (sz : Int)] p.c.cached CD cn w8) := hid ⟨((show BlkR w6 Gr t 110 p.c.cells (some (τ, .top)) from ⟨HP6.out.1, HT5.out.2⟩).keep hx8 (by rintro ⟨_, e⟩; cases e)).1, ((show BlkR w6 Gr b7 86 #[.int .i64 x0, .int .i64 x1, .int .i64 x2, .int .i64 x3, .int .i64 x4, .string x5, .string x6, .int .i64 (pos : Int), .int .i64 (sz : Int)] none from ⟨HP6.out.2.1, HT.out.fin b7 HL7.out⟩).keep hx8 (by rintro ⟨_, e⟩; cases e)).1, HC8.out.1⟩
    clear hrow8 hx8 hf8 hn8 HP7 HO8 HG8 HL8
    refine headI_end (by kernel_rfl) HP8.out ?_
    simp only [List.take, List.drop]
    have HCN : Hid (cn < maxLen) := hid (by
     have h1 := HTc.out.cn1
     have h2 := HH.out.en
     have h3 := HH.out.cur
     simp only at h1
     unfold maxLen
     omega)
    have hkI := Go.Proofs.YtendlmdmbkcdnaaGreatDoor.gh.keyI (X.cur : Int) (by omega) (by have h1 := HH.out.cur; omega)
    go_wp2_with (first
     | (at_mapUpdate; go_must (refine wpList_mapUpdate_own _ rfl _ _ _ 108 rfl 3 80 lawN Tryz.underlying108 slR p.c.cached cn _ rfl HC8.out.1 HCN.out _ _ _ rfl rfl hkI (slD g8 (nl + 1) c8) [] rfl ?_; intro w9 hown9 hgrow9; have HO9 := hid hown9; have HX9 : Hid (Fx (CR (some (τ, .cached))) G8 G8 w8 w9) := hid (Fx.grown hgrow9 HC8.out.2); clear hown9 hgrow9))
     | fail)
    have HXX : Hid (Fx (CRow τ X.cur) Gr G8 wc w9) := hid ((((HX5.out.mono (fun t r h => ⟨h.1, Or.inl h.2⟩)).trans (Fx.below HB6.out)).trans (HX8.out.mono (fun t r h => ⟨h.1, Or.inr (Or.inr h.2)⟩))).trans (HX9.out.mono (fun t r h => ⟨h.1, Or.inr (Or.inl h.2)⟩)))
    have HNX : Hid (TopG w9 G8 τ t d X q (⟨x.name, x.blk, fSync x.st⟩ :: l) (no + 1) L { p with cn := cn + 1, CD := CD.put (.int .i64 (X.cur : Int)) (slD g8 (nl + 1) c8) } (noteAll X.cur X.T (placed X.wpos (X.wr.take (k + 1)))) (X.old.map (fun o => (o.num, o.recs)) ++ [(X.cur, X.rs ++ X.wr.take (k + 1))]) (X.en + X.cur + (k + 1))) := hid (by
     have ht : X.wr.take (k + 1) = X.wr.take k ++ [⟨x0, x1, x2, x3, x4, x5, x6⟩] := Go.Proofs.YtendlmdmbkcdnaaGreatDoor.ma.take_succ_some HR.out
     have hpl : placed X.wpos (X.wr.take (k + 1)) = placed X.wpos (X.wr.take k) ++ [(⟨⟨x0, x1, x2, x3, x4, x5, x6⟩, (pos : Int), (sz : Int)⟩ : Pl)] := by
      rw [ht, placed_app, HPOS.out]
      simp [placed, HZ.out]
     have hfl : (placed 21 (X.rs ++ X.wr.take (k + 1))).flatMap plC = (placed 21 (X.rs ++ X.wr.take k)).flatMap plC ++ [.int .i64 x0, .int .i64 x1, .int .i64 x2, .int .i64 x3, .int .i64 x4, .string x5, .string x6, .int .i64 (pos : Int), .int .i64 (sz : Int)] := by
      rw [ht, <- List.append_assoc, placed_app, bodyR_app, List.length_append, <- Nat.add_assoc]
      rw [show 21 + (bodyR X.rs).length + (bodyR (X.wr.take k)).length = pos from HPOS.out]
      simp [placed, HZ.out, plC]
     have hlen : (X.rs ++ X.wr.take (k + 1)).length = nl + 1 := by
      rw [ht, <- List.append_assoc, List.length_append, HNL.out]
      rfl
     rw [hpl, noteAll_snoc]
     refine TopG.round HTc.out HXX.out (HF8.out.more HX9.out.size) HN8.out ⟨?_, ?_⟩ ⟨HO9.out, HC8.out.2⟩ fun s ls hs => ?_
     ·have hd : DirR w5 Gr τ p.c.dir _ := ⟨HD5.out, HTc.out.dir.2.keep HX5.out (by have h1 := HDL.out.1; have h2 := HBC.out.size; simp only; omega)⟩
      exact (((hd.keep (C := CN) (Fx.below HB6.out) (fun h => h) (fun h => h)).keep HX8.out (by rintro ⟨_, e⟩; cases e) cr_none).keep HX9.out (by rintro ⟨_, e⟩; cases e) cr_none).1
     ·exact HTc.out.dir.2.keep HXX.out (by have h1 := HDL.out.1; have h2 := HBC.out.size; simp only; omega)
     ·rcases List.mem_append.1 hs with hs | hs
      ·obtain ⟨oo, hoo, e⟩ := List.mem_map.1 hs
       injection e with e1 e2
       have hne : s ≠ X.cur := by rw [<- e1]; exact HH.out.olds oo hoo
       obtain ⟨o2, A2, cp2, h1, h2, h3⟩ := HTc.out.rows s ls (List.mem_append_left _ hs)
       refine ⟨o2, A2, cp2, h1, (atKey_put_other (by intro e; injection e with _ e; exact hne (Int.ofNat.inj e)) _ _).trans h2, h3.keep HXX.out (crow_no (by simp) (by simp) (by intro e; injection e with e; exact hne (Int.ofNat.inj e)))⟩
      ·rw [List.mem_singleton] at hs
       injection hs with e1 e2
       subst e1 e2
       refine ⟨some (g8, nl + 1, c8), some ⟨g8, 0, none⟩, c8, by rw [hlen]; rfl, atKey_put_same HC8.out.1.isMap isKeyLit_int _ _, ?_⟩
       have h9 := HR8.out.keep HX9.out (by rintro ⟨_, e⟩; cases e)
       rw [hlen, hfl]
       exact h9)
    have HXF : Hid (Fx (CT τ) G G8 w w9) := hid ((HX.out.trans (Fx.below HBC.out)).trans (HXX.out.mono crow_ct))
    have i42 := HI42.out
    go_wp2_with fail
    go_roundw
    case rel =>
     have h1 := HLT.out
     have h2 := HH.out.wl
     have hw9 : wrap64 ((k : Int) + 1) = ((k + 1 : Nat) : Int) := by rw [Go.IntWalk.wrap64_in _ (by omega)]; omega
     exact ⟨k + 1, cn + 1, _, G8, HLT.out, by rw [hw9], HNX, HXF⟩
    case measure =>
     have h1 := HLT.out
     have h2 := HH.out.wl
     have hw9 : wrap64 ((k : Int) + 1) = ((k + 1 : Nat) : Int) := by rw [Go.IntWalk.wrap64_in _ (by omega)]; omega
     refine meas_lt ?_ hw9 h1
     rfl
  ·obtain rfl : k = X.wr.length := by omega
   go_wp2_with fail
   have hoff := HH.out.offs
   have hlast : X.wr[X.wr.length - 1]? = some (X.wr[X.wr.length - 1]'(by have h1 := HWL.out; omega)) := List.getElem?_eq_getElem _
   have hlo := hoff _ _ hlast
   have hwl := waits_get X.wpos X.wr _ _ hlast
   have hnx : nextN p.c (waitsAt X.wpos X.wr) = ((X.en + X.wr.length : Nat) : Int) := by
    rw [nextN, List.getLast?_eq_getElem?, waits_len, hwl]
    simp only
    rw [hlo]
    have h1 := HWL.out
    have h2 := HH.out.en
    rw [Go.IntWalk.wrap64_in _ (by omega)]; omega
   have HNX := hid hnx
   clear hoff hlast hlo hwl hnx hlt
   have HW0 := hid (own_less HT.out.waits.1 (Nat.le_refl 0))
   refine (next_any wr t p.c (waitsAt X.wpos X.wr) HT.out.top.1 (by rw [waits_len]; exact HTV.out.ewn) 0 HW0.out (by rw [waits_len]; have h1 := HH.out.wl; omega)).mono ?_
   rintro e w2 ⟨rfl, hw2⟩
   rw [hw2, HNX.out]
   clear hw2
   go_wp2_with (first
    | ((with_reducible refine at_op ⟨none, .store 2 (.tmp 77) (.tmp 75), _, _, _, _⟩ ?_); refine wpList_store_one rfl 2 (.tmp 77) (.tmp 75) rfl t 16 rfl (.int .i64 ((X.en + X.wr.length : Nat) : Int)) rfl rfl rfl 110 _ HT.out.top.1 (by simp [Tc.cells]) (by kernel_rfl) ?_; intro w3 hT3 hg3 hz3; have HT3 : Hid (BlkR w3 Gr t 110 (Tc.cells { p.c with next := ((X.en + X.wr.length : Nat) : Int) }) (some (τ, .top))) := hid ⟨hT3, HT.out.top.2⟩; have HX3 : Hid (Fx (CR (some (τ, .top))) Gr Gr wr w3) := hid (Fx.grown hg3 HT.out.top.2); clear hT3 hg3 hz3)
    | ((with_reducible refine at_op ⟨none, .store 106 (.tmp 80) (.const (.slice none 0 0)), _, _, _, _⟩ ?_); refine wpList_store_one rfl 106 (.tmp 80) (.const (.slice none 0 0)) rfl t 15 rfl (.slice none 0 0) rfl rfl rfl 110 _ HT3.out.1 (by simp [Tc.cells]) (by kernel_rfl) ?_; intro w4 hT4 hg4 hz4; have HT4 : Hid (BlkR w4 Gr t 110 (Tc.cells { p.c with next := ((X.en + X.wr.length : Nat) : Int), wA := none, wn := 0, wc := 0 }) (some (τ, .top))) := hid ⟨hT4, HT3.out.2⟩; have HX4 : Hid (Fx (CR (some (τ, .top))) Gr Gr wr w4) := hid (HX3.out.trans (Fx.grown hg4 HT3.out.2)); have c14 : w4.cell? ⟨t, 14, none⟩ = some (.pointer (some ⟨p.c.ta, 0, none⟩)) := (HT4.out.cell 14).trans rfl; clear hT4 hg4 hz4)
    | fail)
   have HA4 := hid (HT.out.all.keep HX4.out (cr_top (by simp)) (cr_top (by simp)))
   refine (clone_any w4 p.c.ta p.am p.an X.DA HA4.out.1 (by have h1 := HH.out.da; unfold maxLen; omega)).mono ?_
   rintro e w5 ⟨rfl, ht5, hb5⟩
   have HC5 := hid ht5
   have HB5 := hid hb5
   have HT5 := hid (HT4.out.keep (C := CN) (Fx.below hb5) (fun h => h))
   clear ht5 hb5 c14
   go_wp2_with (first
    | ((with_reducible refine at_op ⟨none, .store 105 (.tmp 88) (.tmp 86), _, _, _, _⟩ ?_); refine wpList_store_one rfl 105 (.tmp 88) (.tmp 86) rfl t 13 rfl (.pointer (some ⟨w4.heap.size + 1, 0, none⟩)) rfl rfl rfl 110 _ HT5.out.1 (by simp [Tc.cells]) (by kernel_rfl) ?_; intro w6 hT6 hg6 hz6; have HT6 : Hid (BlkR w6 Gr t 110 (Tc.cells { p.c with next := ((X.en + X.wr.length : Nat) : Int), wA := none, wn := 0, wc := 0, tc := w4.heap.size + 1 }) (some (τ, .top))) := hid ⟨hT6, HT5.out.2⟩; have HX6 : Hid (Fx (CR (some (τ, .top))) Gr Gr w5 w6) := hid (Fx.grown hg6 HT5.out.2); clear hT6 hg6 hz6)
    | fail)
   go_ret
   have hl3 : wr.heap.size <= w4.heap.size := HX4.out.size
   have hl5 := HB5.out.size
   have hl6 := HX6.out.size
   have hbt := HC5.out.1.lt
   have hF0 : Fx (CR (some (τ, .top))) Gr Gr wr w6 := (HX4.out.trans (Fx.below HB5.out)).trans HX6.out
   have hF : Fx (CR (some (τ, .top))) Gr ((Gr.put w4.heap.size (some (τ, .tabm))).put (w4.heap.size + 1) (some (τ, .tab))) wr w6 := (hF0.put hl3 _).put (by omega) _
   have hfin : Fin ((Gr.put w4.heap.size (some (τ, .tabm))).put (w4.heap.size + 1) (some (τ, .tab))) w6 := ((HT.out.fin.more hF0.size).put (by omega) _).put (by omega) _
   have hTT := HT.out
   have h56 : ∀ i, i < w5.heap.size -> wr.heap.size <= i -> w6.heap[i]? = w5.heap[i]? := fun i hi hge => HX6.out.keep i hi (by
    intro hc
    have h1 := (HT.out.fin i hge).2
    rw [hc.2] at h1
    cases h1)
   have htab : TabR w6 ((Gr.put w4.heap.size (some (τ, .tabm))).put (w4.heap.size + 1) (some (τ, .tab))) τ .tab .tabm (w4.heap.size + 1) w4.heap.size (Maps.size X.DA) X.DA :=
    ⟨⟨blk_keepH HC5.out.1 (h56 _ hbt (by omega)), map_keepH HC5.out.2 (h56 _ (by omega) (by omega))⟩, Gh.put_same _ _ _ (HT.out.fin _ (by omega)).1, Gh.put_other (Gh.put_same _ _ _ (HT.out.fin _ (by omega)).1) (by omega)⟩
   refine ⟨rfl, _, ⟨{ p with c := { p.c with next := ((X.en + X.wr.length : Nat) : Int), wA := none, wn := 0, wc := 0, tc := w4.heap.size + 1 }, tm := w4.heap.size, tn := Maps.size X.DA, cn := cn, CD := CD }, ?_⟩, HX.out.trans (hF.mono (ct_r _))⟩
   rw [List.take_length] at hTT
   exact {
    top := ⟨HT6.out.1, HT.out.top.2.keep hF HT.out.top.1.lt⟩
    ed := HTV.out.ed, eid := HTV.out.eid, elim := HTV.out.elim, eret := HTV.out.eret, eman := HTV.out.eman, eseg := HTV.out.eseg, ewn := rfl, enext := rfl, eclock := HTV.out.eclock, enseg := HTV.out.enseg, egone := HTV.out.egone
    segs := ints_keep hTT.segs hTT.cold hF cr_none
    cold := hTT.cold.keep hF
    seg := by rw [commitS_seg]; exact hTT.seg.keep hF (cr_top (by simp)) (cr_top (by simp)) (cr_top (by simp))
    dir := hTT.dir.keep hF (cr_top (by simp)) cr_none
    tab := htab
    all := hTT.all.keep hF (cr_top (by simp)) (cr_top (by simp))
    waits := RowR.none_ _ _ _ _ 0 _
    cached := hTT.cached.keep hF (cr_top (by simp))
    rows := fun s ls hs => (hTT.rows s ls hs).keep hF (cr_top (by simp))
    dk := hTT.dk.keep hF (fun _ _ h => h.1) (fun i hi => (HT.out.fin i hi).1)
    fin := hfin
    tg := hTT.tg.keep hF cr_none
    cn1 := by have h1 := hTT.cn1; simp only [commitS] at h1 ⊢; omega
    an1 := by have h1 := hTT.an1; simp only [commitS, List.length_nil] at h1 ⊢; omega
    tnm := hTT.tnm }
end Go.Proofs.YtendlmdmbkcdnaaGreatDoor.tp
namespace Go.Proofs.YtendlmdmbkcdnaaGreatDoor.tp
open Go.RowKit Go.Maps Go.WideMaps oc rc gh dk sg ma hi kd
open Go.Lib (hid)
set_option maxRecDepth 100000
def SomeB (e : Ending) : Prop := ∃ b, e = .returned (.bool b)
theorem bst {w W : World} {b : Nat} (h : Below w.heap.size w W) (hb : w.heap.size <= b) (i : Nat) (v : Value) : Below w.heap.size w (W.setCell ⟨b, i, none⟩ v) := h.setCell (by exact hb) v
theorem newb {X WS : World} {y : Array Value} {t : TypeId} (h : Below (X.alloc (.cells y t)).drew.heap.size (X.alloc (.cells y t)).drew WS) : Blk WS X.heap.size t y := (Blk.new X t y).drew.below h (by simp)
set_option maxHeartbeats 8000000 in
theorem needed_any (w : World) (F : Nat -> Prop) (t : Nat) (c : Tc) (T : KT) (h : Blk w t 110 c.cells) (hg : c.gone = false) (hD : DirAt w F c.dir T) (hs : T.short) (now : Int) (r : Rc) (hk : r.key.size <= 64) :
  Calls Tryz.prog 46 #[.pointer (some ⟨t, 0, none⟩), .int .i64 now, .agg r.cells] w fun e w' => SomeB e /\ Below w.heap.size w w' := by
 obtain ⟨x0, x1, x2, x3, x4, x5, x6⟩ := r
 dsimp only [Rc.cells] at hk ⊢
 have HU := hid (fun W (hb : Below w.heap.size w W) => usable_ok W t c (h.below hb h.lt) hg)
 have HGT := hid (fun W (hb : Below w.heap.size w W) => get_any W F c.dir T x5 (hD.below hb) hs hk)
 have HT := hid h
 clear hg hD hs hk h
 go_enter Tryz.func46, Tryz.ntmps46
 obtain ⟨W, hW⟩ : ∃ y, w.alloc (.cells #[.int .i64 x0, .int .i64 x1, .int .i64 x2, .int .i64 x3, .int .i64 x4, .string x5, .string x6] 47) = y := ⟨_, rfl⟩
 have HBW : Hid (Below w.heap.size w W) := by rw [<- hW]; exact hid ((Below.refl _ _).alloc (Nat.le_refl _) _)
 have HB5 : Hid (Blk W w.heap.size 47 #[.int .i64 x0, .int .i64 x1, .int .i64 x2, .int .i64 x3, .int .i64 x4, .string x5, .string x6]) := by rw [<- hW]; exact hid (Blk.new w _ _)
 go_wp2_with fail
 try rw [hW]
 clear hW
 refine (HU.out W HBW.out).mono ?_
 rintro e w1 ⟨rfl, hw1⟩
 subst hw1
 have kt : ∀ w', Below w1.heap.size w1 w' -> w'.cell? ⟨t, 12, none⟩ = some (.pointer (some ⟨c.dir, 0, none⟩)) := fun w' hb => (((HT.out.below HBW.out HT.out.lt).below hb (HT.out.below HBW.out HT.out.lt).lt).cell 12).trans rfl
 have k65 : ∀ w', Below w1.heap.size w1 w' -> w'.cell? ⟨w.heap.size, 5, none⟩ = some (.string x5) := fun w' hb => ((HB5.out.below hb HB5.out.lt).cell 5).trans rfl
 obtain ⟨⟨s1, s2, s3, s4, s5, s6⟩, hs⟩ : ∃ x, entOf (findT x5 T) = x := ⟨_, rfl⟩
 obtain ⟨fb, hfb⟩ : ∃ x, (findT x5 T).isSome = x := ⟨_, rfl⟩
 have JG : ∀ W, Below w1.heap.size w1 W -> Calls Tryz.prog 59 #[.pointer (some ⟨c.dir, 0, none⟩), .string x5] W fun e w' => e = .returned (.tuple #[.agg #[.int .i64 s1, .int .i64 s2, .int .i64 s3, .int .i64 s4, .int .i64 s5, .bool s6], .bool fb]) /\ Below W.heap.size W w' := fun W hb => by
  have := HGT.out W (HBW.out.trans (hb.mono HBW.out.size))
  rw [hs, hfb] at this
  exact this
 clear hs hfb HGT HU
 go_wp2_with fail
 go_cut [7, 8] (fun v b wx => ∃ bx, v = .pointer (some ⟨bx, 0, none⟩) /\ b = .bool fb /\ Hid (Blk wx bx 117 #[.int .i64 s1, .int .i64 s2, .int .i64 s3, .int .i64 s4, .int .i64 s5, .bool s6]) /\ Hid (Below w1.heap.size w1 wx))
 case first =>
  go_region_held3 (fun w' => Below w1.heap.size w1 w') (first | assumption | with_reducible exact Below.drew (Below.refl _ _) | with_reducible exact (Below.refl _ _) | with_reducible exact bal (by assumption) _ | with_reducible exact bal (Below.refl _ _) _ | with_reducible exact Below.drew (bal (by assumption) _) | with_reducible exact Below.drew (bal (Below.refl _ _) _) | with_reducible exact bal (Below.drew (Below.refl _ _)) _ | ((repeat (with_reducible refine bst ?_ (Nat.le_refl _) _ _)); assumption)) (first
   | (go_at_call 59; with_reducible refine (JG _ (by assumption)).mono ?_; rintro e WS ⟨rfl, hbS0⟩; have hbS : Below w1.heap.size w1 WS := blt (by assumption) hbS0; try ((with_reducible have hbx := newb hbS0); have z0 : WS.cell? ⟨w1.heap.size, 0, none⟩ = some (.int .i64 0) := (hbx.cell 0).trans rfl; have z1 : WS.cell? ⟨w1.heap.size, 1, none⟩ = some (.int .i64 0) := (hbx.cell 1).trans rfl; have z2 : WS.cell? ⟨w1.heap.size, 2, none⟩ = some (.int .i64 0) := (hbx.cell 2).trans rfl; have z3 : WS.cell? ⟨w1.heap.size, 3, none⟩ = some (.int .i64 0) := (hbx.cell 3).trans rfl; have z4 : WS.cell? ⟨w1.heap.size, 4, none⟩ = some (.int .i64 0) := (hbx.cell 4).trans rfl; have z5 : WS.cell? ⟨w1.heap.size, 5, none⟩ = some (.bool false) := (hbx.cell 5).trans rfl; have y0 := hbx.frozen 0; have y1 := hbx.frozen 1; have y2 := hbx.frozen 2; have y3 := hbx.frozen 3; have y4 := hbx.frozen 4; have y5 := hbx.frozen 5))
   | fail)
  ·go_wp2_with fail
   go_meet
   exact ⟨WS.heap.size, rfl, rfl, hid (Blk.new WS _ _), hid (hbS.alloc hbS.size _)⟩
  ·have hbk := (((((((newb hbS0).set_ 0 (.int .i64 s1)).set_ 1 (.int .i64 s2)).set_ 2 (.int .i64 s3)).set_ 3 (.int .i64 s4)).set_ 4 (.int .i64 s5)).set_ 5 (.bool s6))
   have HBK := hid hbk
   have HBS : Hid (Below w1.heap.size w1 ((((((WS.setCell ⟨w1.heap.size, 0, none⟩ (.int .i64 s1)).setCell ⟨w1.heap.size, 1, none⟩ (.int .i64 s2)).setCell ⟨w1.heap.size, 2, none⟩ (.int .i64 s3)).setCell ⟨w1.heap.size, 3, none⟩ (.int .i64 s4)).setCell ⟨w1.heap.size, 4, none⟩ (.int .i64 s5)).setCell ⟨w1.heap.size, 5, none⟩ (.bool s6))) := hid (bst (bst (bst (bst (bst (bst hbS (Nat.le_refl _) _ _) (Nat.le_refl _) _ _) (Nat.le_refl _) _ _) (Nat.le_refl _) _ _) (Nat.le_refl _) _ _) (Nat.le_refl _) _ _)
   clear hbk
   go_wp2_with fail
   go_meet
   exact ⟨w1.heap.size, rfl, rfl, HBK, HBS⟩
 case rest =>
  obtain ⟨bx, rfl, rfl, HBX, HWX⟩ := hcut
  clear kt k65 JG
  have e3 := fun d' os => cell_regrown (show wc.cell? ⟨bx, 3, none⟩ = some (.int .i64 s4) from (HBX.out.cell 3).trans rfl) d' os
  have e4 := fun d' os => cell_regrown (show wc.cell? ⟨bx, 4, none⟩ = some (.int .i64 s5) from (HBX.out.cell 4).trans rfl) d' os
  have e5 := fun d' os => cell_regrown (show wc.cell? ⟨bx, 5, none⟩ = some (.bool s6) from (HBX.out.cell 5).trans rfl) d' os
  have k1 := fun d' os => cell_regrown (show wc.cell? ⟨w.heap.size, 1, none⟩ = some (.int .i64 x1) from (((HB5.out.below HWX.out HB5.out.lt)).cell 1).trans rfl) d' os
  have k3 := fun d' os => cell_regrown (show wc.cell? ⟨t, 3, none⟩ = some (.int .i64 c.ret) from (((HT.out.below HBW.out HT.out.lt).below HWX.out (HT.out.below HBW.out HT.out.lt).lt).cell 3).trans rfl) d' os
  clear HBX HB5 HT
  cases fb with
  | false =>
   go_wp2_with fail
   refine wp_quiet_tail 25 (by kernel_rfl) (by kernel_rfl) (by kernel_rfl) ?_
   simp only [List.take, List.drop]
   repeat (first | go_big_quiet_skip | (go_big_quiet_want; go_big_quiet_op; go_big_quiet_on))
   refine wpQuiet_nil ?_
   intro W2 hw'
   obtain ⟨⟨dq, osq⟩, hw''⟩ := hw'
   have HB2 : Hid (Below w.heap.size w W2) := by rw [hw'']; exact hid (HBW.out.trans ((HWX.out.trans ((below_regrown wc dq osq).mono HWX.out.size)).mono HBW.out.size))
   clear hw'' e3 e4 e5 k1 k3
   go_wp2_with fail
   go_ret
   exact ⟨⟨_, rfl⟩, HB2.out⟩
  | true =>
   by_cases h4 : s4 = x1
   ·have g4 : (s4 == x1) = true := by simp [h4]
    cases s6
    all_goals
     go_wp2_with fail
     refine wp_quiet_tail 25 (by kernel_rfl) (by kernel_rfl) (by kernel_rfl) ?_
     simp only [List.take, List.drop]
     repeat (first | go_big_quiet_skip | (go_big_quiet_want; go_big_quiet_op; go_big_quiet_on))
     refine wpQuiet_nil ?_
     intro W2 hw'
     obtain ⟨⟨dq, osq⟩, hw''⟩ := hw'
     have HB2 : Hid (Below w.heap.size w W2) := by rw [hw'']; exact hid (HBW.out.trans ((HWX.out.trans ((below_regrown wc dq osq).mono HWX.out.size)).mono HBW.out.size))
     clear hw'' e3 e4 e5 k1 k3
     go_wp2_with fail
     go_ret
     exact ⟨⟨_, rfl⟩, HB2.out⟩
   ·have g4 : (s4 == x1) = false := by simp [h4]
    clear h4
    go_wp2_with fail
    refine wp_quiet_tail 25 (by kernel_rfl) (by kernel_rfl) (by kernel_rfl) ?_
    simp only [List.take, List.drop]
    repeat (first | go_big_quiet_skip | (go_big_quiet_want; go_big_quiet_op; go_big_quiet_on))
    refine wpQuiet_nil ?_
    intro W2 hw'
    obtain ⟨⟨dq, osq⟩, hw''⟩ := hw'
    have HB2 : Hid (Below w.heap.size w W2) := by rw [hw'']; exact hid (HBW.out.trans ((HWX.out.trans ((below_regrown wc dq osq).mono HWX.out.size)).mono HBW.out.size))
    clear hw'' e3 e4 e5 k1 k3
    go_wp2_with fail
    go_ret
    exact ⟨⟨_, rfl⟩, HB2.out⟩
end Go.Proofs.YtendlmdmbkcdnaaGreatDoor.tp
