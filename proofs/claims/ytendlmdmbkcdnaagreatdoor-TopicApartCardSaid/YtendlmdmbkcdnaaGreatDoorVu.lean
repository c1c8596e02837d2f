/-
  Texts of the proof joined by a program: Tox Toz Tpa Ddh.
-/
import Derived.Test.YtendlmdmbkcdnaaGreatDoorVt
import Derived.Test.YtendlmdmbkcdnaaGreatDoorVg
set_option linter.unusedSimpArgs false
set_option linter.unusedVariables false
namespace Go.Proofs.YtendlmdmbkcdnaaGreatDoor.tp
open Go.RowKit Go.Maps Go.WideMaps oc rc gh dk sg ma hi kd dd
open Go.Lib (hid)
set_option maxRecDepth 100000
theorem cks_no {τ : Nat} {pp : Part} (h1 : pp ≠ .seg) (h2 : pp ≠ .places) (h3 : pp ≠ .order) : ¬ CKS τ .other (some (τ, pp)) := by
 rintro (h | ⟨_, h | h | h⟩)
 ·exact h.1 rfl
 ·injection h with h; injection h with _ h; exact h1 h
 ·injection h with h; injection h with _ h; exact h2 h
 ·injection h with h; injection h with _ h; exact h3 h
theorem cks_none {τ : Nat} : ¬ CKS τ .other none := by
 rintro (h | ⟨_, h | h | h⟩)
 ·exact h.1 rfl
 ·cases h
 ·cases h
 ·cases h
def rollM (X : TS) (ps : List PrS) : ManS := nextMan X.i (X.cur + 1 + 1) (X.en + X.wr.length) X.clock X.man (X.cur + 1) ps
structure RollH (X : TS) (x : Fil) (l : List Fil) (xm : Fil) (l' : List Fil) (q : Int) (no L : Nat) : Prop where
 da : X.wr = [] -> X.DC = X.DA
 cnt : 0 < (X.rs ++ X.wr).length
 segs : X.man.segs.length <= 63
 perm : l.Perm (xm :: l')
 mnm : xm.name = Sb (manName X.i)
 lim0 : 256 <= X.lim
 lim1 : X.lim <= 65536
 size : 38 + (bodyR (X.rs ++ X.wr)).length <= 65536
 tabok : TabOk X.DA (X.en + X.wr.length)
 olds : ∀ o ∈ X.old, o.num ≠ X.cur + 1
 cn : X.en + X.wr.length + X.cur + 1 <= 1073741824
 good : ∀ r ∈ X.rs ++ X.wr, checkN r = 0
 nseg : ∀ z ∈ x :: l, z.name ≠ Sb (nameN X.i ((X.cur + 1 : Nat) : Int))
 ntmp : ∀ z ∈ x :: l, z.name ≠ Sb (tmpN (manName X.i))
 nhint : ∀ z ∈ x :: l, z.name ≠ Sb (hintN X.i X.cur)
 no1 : no + 20 <= 1099511627776
 L1 : L + 20 <= 1073741824
 len : l.length + 4 < 65536
 room : ((sumF (x :: l) : Nat) : Int) + 4096 <= q
 manok : ∀ ps, ProdsOk (X.en + X.wr.length) ps -> ps.length <= 64 -> ManOk (rollM X ps)
 manl : ∀ ps, ProdsOk (X.en + X.wr.length) ps -> ps.length <= 64 -> (manN (rollM X ps)).length <= 2900
def rollS (X : TS) (ps : List PrS) : TS := { X with man := rollM X ps, old := X.old ++ [⟨X.cur, X.base, X.rs ++ X.wr⟩], cur := X.cur + 1, base := X.en + X.wr.length, rs := [], wr := [], DC := X.DA, T := noteAll X.cur X.T (placed X.wpos X.wr), en := X.en + X.wr.length }
theorem rollS_seg (X : TS) (ps : List PrS) : (rollS X ps).seg = seg0 X.lim (inf0 X.i (X.cur + 1) (X.en + X.wr.length)) (extN 0 (headN X.i (X.cur + 1) (X.en + X.wr.length))) := by
 simp [TS.seg, rollS, seg0, inf0, segB, bodyR]
theorem rollS_rows (X : TS) (ps : List PrS) : (rollS X ps).rows = (commitS X).rows ++ [(X.cur + 1, [])] := by
 simp [TS.rows, rollS, commitS]
theorem bodyR_many {l : List Rc} (h : ∀ r ∈ l, checkN r = 0) : 14 * l.length <= (bodyR l).length := by
 induction l with
 | nil => simp
 | cons r l ih =>
  have h1 := ih fun y hy => h y (List.mem_cons_of_mem _ hy)
  have h2 := (encR_size (h r List.mem_cons_self)).1
  simp only [bodyR, List.flatMap_cons, List.length_append, List.length_cons] at h1 ⊢
  omega
def sealF (X : TS) (x : Fil) : Fil := ⟨x.name, x.blk, fSync (fApp (cmF X x).st (tailN X.seg.sum X.seg.i.count (u64of X.seg.i.last)))⟩
theorem field_sum_size (X : TS) (x : Fil) (l : List Fil) : sumF (cmF X x :: l) = sumF (x :: l) := by
 simp only [cmF, sumF, List.map_cons, List.sum_cons]
 split <;> rfl
theorem sealF_size (X : TS) (x : Fil) (l : List Fil) : sumF (sealF X x :: l) = sumF (x :: l) + 17 := by
 have h1 := field_sum_size X x l
 have h2 := tailN_len X.seg.sum X.seg.i.count (u64of X.seg.i.last)
 simp only [sealF, sumF, List.map_cons, List.sum_cons, fSync, fApp, List.length_append, h2] at h1 ⊢
 omega
def HsOk (X : TS) (B : Nat) (hs : List Fil) : Prop := hs = [] \/ ∃ es f, B <= f /\ hs = [⟨Sb (hintN X.i X.cur), f, fNew (hencL (X.cur : Int) ((21 : Int) + ((bodyR (X.rs ++ X.wr)).length : Nat) + 17) es)⟩] /\ (∀ y ∈ es, ∃ z ∈ placed 21 (X.rs ++ X.wr), y = entH z) /\ es.length <= 65536 /\ rightB ((21 : Int) + ((bodyR (X.rs ++ X.wr)).length : Nat) + 17) es = true
theorem sumF_new (a : ByteArray) (f : Nat) (b : List UInt8) (l : List Fil) : sumF (⟨a, f, fNew b⟩ :: l) = b.length + sumF l := by simp [sumF, fNew, fSync, fApp]
def RollOut (w : World) (G : Gh) (τ t d : Nat) (X : TS) (x : Fil) (l' : List Fil) (q : Int) (no L : Nat) (e : Ending) (w' : World) : Prop :=
 ∃ G' ps hs f f2 no' L', e = .returned (.int .i64 0) /\ ProdsOk (X.en + X.wr.length) ps /\ ps.length <= 64 /\ HsOk X w.heap.size hs /\
  TopAt w' G' τ t d (rollS X ps) q (⟨Sb (manName X.i), f2, fNew (manN (rollM X ps))⟩ :: ⟨Sb (nameN X.i ((X.cur + 1 : Nat) : Int)), f, fSync (fApp ⟨[], [], []⟩ (headN X.i (X.cur + 1) (X.en + X.wr.length)))⟩ :: (hs ++ sealF X x :: l')) no' L' /\ Fx (CT τ) G G' w w' /\ no' <= no + 14 /\ L' <= L + 8 /\ ((sumF (⟨Sb (manName X.i), f2, fNew (manN (rollM X ps))⟩ :: ⟨Sb (nameN X.i ((X.cur + 1 : Nat) : Int)), f, fSync (fApp ⟨[], [], []⟩ (headN X.i (X.cur + 1) (X.en + X.wr.length)))⟩ :: (hs ++ sealF X x :: l')) : Nat) : Int) + 1124 <= q
theorem wp_seq_var {P : Program} {x y : Code} {Q : Exit -> Act -> World -> Prop} {a : Act} {w : World} (h : ∀ K : Act -> World -> Prop, (∀ a w, y.wp P Q a w -> K a w) -> x.wp P (Exit.then K Q) a w) : (x.seq y).wp P Q a w := wp_seq (h _ (fun _ _ h => h))
theorem sumF_perm {fs fs' : List Fil} (h : fs.Perm fs') : sumF fs = sumF fs' := (h.map _).sum_nat
theorem roll_sum {a b : ByteArray} {f f2 i n e : Nat} {m : List UInt8} {xm : Fil} {l l' : List Fil} {q : Int} (hp : l.Perm (xm :: l')) (h : ((sumF l : Nat) : Int) + 4079 <= q) (hm : m.length <= 2900) : ((sumF (⟨a, f2, fNew m⟩ :: ⟨b, f, fSync (fApp ⟨[], [], []⟩ (headN i n e))⟩ :: l') : Nat) : Int) + 1124 <= q := by
 have h1 := sumF_perm hp
 have h2 : sumF (xm :: l') = xm.st.seen.length + sumF l' := by simp [sumF]
 have h3 : sumF (⟨b, f, fSync (fApp ⟨[], [], []⟩ (headN i n e))⟩ :: l') = 21 + sumF l' := by simp [sumF, fSync, fApp, headN_len]
 rw [sumF_new, h3]
 omega
theorem put3 (a0 a1 a2 b0 b1 b2 : Value) : putFrom #[b0, b1, b2] 0 [a0, a1, a2] = #[a0, a1, a2] := by simp [putFrom]
set_option maxHeartbeats 16000000 in
theorem roll_some (w : World) (G : Gh) (τ t d : Nat) (X : TS) (q : Int) (fs : List Fil) (no L : Nat) (h : TopAt w G τ t d X q fs no L) (x : Fil) (l : List Fil) (H : CmH X fs x l) (xm : Fil) (l' : List Fil) (HR : RollH X x l xm l' q no L) :
  Calls Tryz.prog 41 #[.pointer (some ⟨t, 0, none⟩)] w (RollOut w G τ t d X x l' q no L) := by
 have hd := HR.da
 have hno : no <= 1099511627776 := by have := HR.no1; omega
 have hc := HR.cnt
 have hm := HR.segs
 obtain ⟨p, h⟩ := h
 have c21 : w.cell? ⟨t, 21, none⟩ = some (.bool false) := (h.top.cell 21).trans (by rw [<- h.egone]; rfl)
 have c11 : w.cell? ⟨t, 11, none⟩ = some (.pointer (some ⟨p.g, 0, none⟩)) := (h.top.cell 11).trans (by rw [<- h.eseg]; rfl)
 have HTV := hid h
 have HCC := hid (fun W (hb : Below w.heap.size w W) => commit_any W G τ t d X q fs no L ⟨p, h.below hb⟩ x l H hd hno)
 have HH := hid H
 have HC := hid hc
 have HM := hid hm
 have HN := hid hno
 clear h H hd hno hc hm
 go_enter Tryz.func41, Tryz.ntmps41
 go_wp2_with fail
 refine (info_any w G τ p.g d X.seg HTV.out.seg).mono ?_
 rintro e w1 ⟨rfl, hb1⟩
 have HB1 := hid hb1
 clear hb1 c21 c11
 have gz : (((X.rs ++ X.wr).length : Int) == 0) = false := by have := HC.out; simp only [beq_eq_false_iff_ne, ne_eq]; omega
 obtain ⟨cnt, hcnt⟩ : ∃ n : Nat, (X.rs ++ X.wr).length = n := ⟨_, rfl⟩
 unfold TS.seg Inf.cells
 rw [hcnt] at gz ⊢
 go_wp2_with fail
 obtain ⟨w2, hw2⟩ : ∃ y, w1.alloc (.cells #[.int .i64 (X.i : Int), .int .i64 (X.cur : Int), .int .i64 (X.base : Int), .int .i64 ((21 : Int) + ((bodyR (X.rs ++ X.wr)).length : Nat)), .int .i64 (cnt : Int), .int .i64 ((X.base : Int) - 1 + (cnt : Nat)), .bool false] 79) = y := ⟨_, rfl⟩
 have HB2 : Hid (Below w.heap.size w w2) := by rw [<- hw2]; exact hid (HB1.out.alloc HB1.out.size _)
 rw [hw2]
 clear hw2 gz
 refine (HCC.out w2 HB2.out).mono ?_
 rintro e w3 ⟨rfl, G3, no3, hT3, hX3, hn3, hn3'⟩
 have HX3 : Hid (Fx (CT τ) G G3 w w3) := hid ((Fx.below HB2.out).trans hX3)
 have HF3 : Hid (no <= no3 /\ no3 <= no + 1) := hid ⟨hn3, by omega⟩
 have HSM := hid (show (commitS X).man = X.man from rfl)
 have HCN := hid hcnt
 obtain ⟨p3, hp3⟩ := hT3
 have HT3 := hid hp3
 have c9 : w3.cell? ⟨t, 9, none⟩ = some (.slice p3.c.sA X.man.segs.length p3.c.sc) := (hp3.top.cell 9).trans (by rw [<- HSM.out, <- hp3.eman]; rfl)
 have c11 : w3.cell? ⟨t, 11, none⟩ = some (.pointer (some ⟨p3.g, 0, none⟩)) := (hp3.top.cell 11).trans (by rw [<- hp3.eseg]; rfl)
 have gm : decide ((64 : Int) <= (X.man.segs.length : Int)) = false := decide_eq_false (by have := HM.out; omega)
 have HSE := hid (commitS_seg X)
 clear hX3 hn3 hn3' hp3 HCC hcnt
 go_wp2_with fail
 refine (info_any w3 G3 τ p3.g d (commitS X).seg HT3.out.seg).mono ?_
 rintro e w4 ⟨rfl, hb4⟩
 have HT4 := hid (HT3.out.below hb4)
 have HX4 : Hid (Fx (CT τ) G G3 w w4) := hid (HX3.out.trans (Fx.below hb4))
 have c11' : w4.cell? ⟨t, 11, none⟩ = some (.pointer (some ⟨p3.g, 0, none⟩)) := (HT4.out.top.cell 11).trans (by rw [<- HT4.out.eseg]; rfl)
 have hfd := fun a b c d e f s => field_sealed a b c d e f s
 clear hb4 c9 c11 gm HX3
 rw [HSE.out]
 unfold TS.seg Inf.cells
 rw [HCN.out]
 go_wp2_with fail
 clear hfd
 have hsg4 := HT4.out.seg
 rw [HSE.out] at hsg4
 have hsz : 38 + (bodyR (X.rs ++ X.wr)).length <= 65536 := HR.size
 have hcl : cnt < 4294967296 := by have h1 := HCN.out; have h2 := HH.out.wl; have h3 := HH.out.rl; rw [List.length_append] at h1; omega
 refine (seal_any w4 G3 τ p3.g d X.seg q (cmF X x) l no3 L hsg4 HT4.out.tg (okn HH.out.i) (okn (by have := HH.out.cur; omega)) HT4.out.dk HT4.out.fin (by have h1 := HF3.out; have h2 := HR.no1; omega) (by rw [show (cmF X x).name = x.name from rfl, HH.out.name]; rfl) rfl (extN_lt (by decide) _) (by show (X.rs ++ X.wr).length < _; rw [HCN.out]; exact hcl) (by show (0 : Int) <= 21 + ((bodyR (X.rs ++ X.wr)).length : Nat); omega) (by show (21 : Int) + ((bodyR (X.rs ++ X.wr)).length : Nat) <= _; omega) (by have h1 := field_sum_size X x l; have h2 := HR.room; omega)).mono ?_
 rintro e w5 ⟨G5, rfl, hk5, hs5, hx5, hf5, hr5⟩
 have HK5 : Hid (DK w5 G5 d q (sealF X x :: l) (no3 + 2) L) := hid hk5
 have HS5 := hid hs5
 have HX5 := hid hx5
 have HF5 := hid hf5
 have HT5 := hid (HT4.out.top.keep HX5.out (cks_no (by simp) (by simp) (by simp)))
 have c11 : w5.cell? ⟨t, 11, none⟩ = some (.pointer (some ⟨p3.g, 0, none⟩)) := (HT5.out.1.cell 11).trans (by rw [<- HT4.out.eseg]; rfl)
 clear hk5 hs5 hx5 hf5 hr5 hsg4 c11' hsz hcl
 go_wp2_with fail
 refine (info_any w5 G5 τ p3.g d (sealedS X.seg) HS5.out).mono ?_
 rintro e w6 ⟨rfl, hb6⟩
 have HB6 := hid hb6
 clear hb6 c11
 unfold sealedS TS.seg Inf.cells
 dsimp only
 rw [HCN.out]
 go_wp2_with fail
 obtain ⟨w7, hw7⟩ : ∃ y, w6.alloc (.cells #[.int .i64 (X.i : Int), .int .i64 (X.cur : Int), .int .i64 (X.base : Int), .int .i64 ((21 : Int) + ((bodyR (X.rs ++ X.wr)).length : Nat) + 17), .int .i64 (cnt : Int), .int .i64 ((X.base : Int) - 1 + (cnt : Nat)), .bool true] 79) = y := ⟨_, rfl⟩
 have HB7 : Hid (Below w5.heap.size w5 w7) := by rw [<- hw7]; exact hid (HB6.out.alloc HB6.out.size _)
 have HI7 : Hid (Blk w7 w6.heap.size 79 #[.int .i64 (X.i : Int), .int .i64 (X.cur : Int), .int .i64 (X.base : Int), .int .i64 ((21 : Int) + ((bodyR (X.rs ++ X.wr)).length : Nat) + 17), .int .i64 (cnt : Int), .int .i64 ((X.base : Int) - 1 + (cnt : Nat)), .bool true]) := by rw [<- hw7]; exact hid (Blk.new w6 _ _)
 rw [hw7]
 clear hw7
 have HTG5 := hid (HT4.out.tg.keep HX5.out cks_none)
 have HR5 : Hid (RowAt w5 G5 τ p3.CD X.cur (X.rs ++ X.wr)) := hid ((HT4.out.rows X.cur (X.rs ++ X.wr) (by simp [commitS, TS.rows])).keep HX5.out (cks_no (by simp) (by simp) (by simp)))
 have HC5 := hid (HT4.out.cached.keep HX5.out (cks_no (by simp) (by simp) (by simp)))
 obtain ⟨o5, A5, cp5, ho5, hat5, hrow5⟩ := HR5.out
 have HO5 := hid ho5
 have HAT5 := hid hat5
 have hpl5 : PlsAt w5 A5 (placed 21 (X.rs ++ X.wr)) := PlsAt.of_own (by exact hrow5.1)
 have HPL := hid (fun W (hb : Below w5.heap.size w5 W) => hpl5.below hb)
 have HCNL : Hid ((placed 21 (X.rs ++ X.wr)).length <= 65536) := hid (by have h1 := bodyR_many HR.good; have h2 := HR.size; rw [placed_len]; omega)
 have HKY : Hid (∀ y ∈ placed 21 (X.rs ++ X.wr), y.r.key.size <= 64) := hid (fun y hy => (entH_ok HR.good (by have := HR.size; omega) hy).k1)
 have HT7 := hid (HT5.out.1.below HB7.out HT5.out.1.lt)
 have HC7 := hid (HC5.out.keep (C := CN) (Fx.below HB7.out) (fun h => h))
 clear ho5 hat5 hrow5 hpl5
 go_cut [7] (fun v wx => ∃ b7 es A8 c8, v = .pointer (some ⟨b7, 0, none⟩) /\ Hid (Blk wx b7 193 (hintC (X.cur : Int) ((21 : Int) + ((bodyR (X.rs ++ X.wr)).length : Nat) + 17) A8 (List.length es) c8)) /\ Hid (HesAt wx A8 es) /\ Hid (∀ y ∈ es, ∃ z ∈ placed 21 (X.rs ++ X.wr), y = entH z) /\ Hid (es.length <= 65536) /\ Hid (Below w5.heap.size w5 wx))
 case first =>
  refine wp_region_head 13 (fun W => Below w7.heap.size w7 W) (by kernel_rfl) (by kernel_rfl) (fun w8 hh8 hb8 => ?_)
  have HB8 : Hid (Below w5.heap.size w5 w8) := hid (HB7.out.trans (hb8.mono HB7.out.size))
  have HP8 : Hid ((fun W => Below w7.heap.size w7 W) w8) := hid hb8
  have hne0 : Nonempty (Held (fun W => Below w7.heap.size w7 W)) := ⟨⟨_, HP8.out⟩⟩
  have k61 : ∀ p' : Held (fun W => Below w7.heap.size w7 W), p'.w.cell? ⟨w6.heap.size, 1, none⟩ = some (.int .i64 (X.cur : Int)) := fun p' => ((HI7.out.below p'.h HI7.out.lt).cell 1).trans rfl
  have k63 : ∀ p' : Held (fun W => Below w7.heap.size w7 W), p'.w.cell? ⟨w6.heap.size, 3, none⟩ = some (.int .i64 ((21 : Int) + ((bodyR (X.rs ++ X.wr)).length : Nat) + 17)) := fun p' => ((HI7.out.below p'.h HI7.out.lt).cell 3).trans rfl
  have k20 : ∀ p' : Held (fun W => Below w7.heap.size w7 W), p'.w.cell? ⟨t, 20, none⟩ = some (.map (some p3.c.cached)) := fun p' => ((HT7.out.below p'.h HT7.out.lt).cell 20).trans rfl
  have klk : ∀ p' : Held (fun W => Below w7.heap.size w7 W), (Instr.lookup 108 (.map (some p3.c.cached)) (.int .i64 (X.cur : Int)) false).run Tryz.prog p'.w = .ok (.slice A5 (placed 21 (X.rs ++ X.wr)).length cp5) p'.w := fun p' => by
   have h1 := look_row (HC7.out.keep (C := CN) (Fx.below p'.h) (fun h => h)).1 (s := (X.cur : Int)) (by omega) (by have h2 := HH.out.cur; omega) HAT5.out
   rw [HO5.out] at h1
   rw [placed_len]
   exact h1
  clear hh8 hb8
  refine headI_batch 0 11 (by kernel_rfl) (by kernel_rfl) HP8.out ?_
  simp only [List.take, List.drop]
  repeat (first | go_big_quiet_skip | (go_big_quiet_want; go_big_quiet_op; go_big_quiet_on))
  refine wpQuiet_nil ?_
  clear k61 k63 k20 klk hne0
  refine headI_loud2 11 12 (by kernel_rfl) (by kernel_rfl) HP8.out ?_ ?_
  ·simp only [List.take, List.drop]
   go_wp2_with fail
   refine (of_any w8 (X.cur : Int) ((21 : Int) + ((bodyR (X.rs ++ X.wr)).length : Nat) + 17) (placed 21 (X.rs ++ X.wr)) A5 cp5 (HPL.out _ HB8.out) HCNL.out HKY.out).mono ?_
   rintro e wA ⟨A8, c8, es, rfl, ho, hes, hln, hbA⟩
   have HO := hid ho
   have HES := hid hes
   have HLN := hid hln
   have HBA := hid hbA
   have HPA : Hid ((fun W => Below w7.heap.size w7 W) wA) := hid (HP8.out.trans (hbA.mono HP8.out.size))
   clear ho hes hln hbA
   go_wp2_with fail
   refine ⟨rfl, ?_⟩
   refine headI_loud 12 (by kernel_rfl) (by kernel_rfl) HPA.out ?_
   simp only [List.take, List.drop]
   go_wp2_with fail
   refine ⟨rfl, ?_⟩
   have HN8 := hid (Blk.new wA 193 #[.int .i64 0, .int .i64 0, .slice none 0 0])
   have HO8 := hid (HO.out.alloc (.cells #[.int .i64 0, .int .i64 0, .slice none 0 0] 193))
   have HNE := hid (own_ne HO8.out HN8.out (by decide))
   have HP9 : Hid (Below w5.heap.size w5 (wA.alloc (.cells #[.int .i64 0, .int .i64 0, .slice none 0 0] 193))) := hid ((HB7.out.trans (HPA.out.mono HB7.out.size)).alloc (Nat.le_trans HB7.out.size HPA.out.size) _)
   have HSZ9 : Hid (w5.heap.size <= wA.heap.size) := hid (Nat.le_trans HB7.out.size HPA.out.size)
   refine headI_end (by kernel_rfl) (HPA.out.alloc HPA.out.size _) ?_
   simp only [List.take, List.drop]
   go_wp2_with (first
    | ((with_reducible refine at_op ⟨none, .store 193 (.tmp 7) (.tmp 78), _, _, _, _⟩ ?_); refine wpList_store_blk rfl 193 (.tmp 7) (.tmp 78) rfl wA.heap.size 0 rfl [.int .i64 (X.cur : Int), .int .i64 ((21 : Int) + ((bodyR (X.rs ++ X.wr)).length : Nat) + 17), .slice A8 es.length c8] rfl (by simp [Value.oneCell']) 193 _ HN8.out (by simp) (by kernel_rfl) ?_; intro w9 hT9 hg9 _; rw [put3] at hT9; have HT9 := hid hT9; have HG9 := hid hg9; clear hT9 hg9)
    | fail)
   go_meet
   exact ⟨wA.heap.size, es, A8, c8, rfl, HT9, hid (HesAt.of_own (HO8.out.kept HG9.out (Or.inr HNE.out))), HES, hid (Nat.le_trans HLN.out HCNL.out), hid (HP9.out.grown HG9.out HP9.out.size (fun k hk => by injection hk with hk; have h1 := HSZ9.out; omega))⟩
  ·simp only [List.take, List.drop]
   go_wp2_with fail
   refine ⟨rfl, ?_⟩
   refine headI_loud 11 (by kernel_rfl) (by kernel_rfl) (HP8.out.alloc HP8.out.size _) ?_
   simp only [List.take, List.drop]
   go_wp2_with fail
   refine (of_any _ (X.cur : Int) ((21 : Int) + ((bodyR (X.rs ++ X.wr)).length : Nat) + 17) (placed 21 (X.rs ++ X.wr)) A5 cp5 (HPL.out _ (HB8.out.alloc HB8.out.size _)) HCNL.out HKY.out).mono ?_
   rintro e wA ⟨A8, c8, es, rfl, ho, hes, hln, hbA⟩
   have HN8 := hid ((Blk.new w8 193 #[.int .i64 0, .int .i64 0, .slice none 0 0]).below hbA (by simp))
   have HO8 := hid ho
   have HES := hid hes
   have HLN := hid hln
   have HPA : Hid ((fun W => Below w7.heap.size w7 W) wA) := hid ((HP8.out.alloc HP8.out.size _).trans (hbA.mono (by have := HP8.out.size; simp; omega)))
   have HNE := hid (own_ne HO8.out HN8.out (by decide))
   have HP9 : Hid (Below w5.heap.size w5 wA) := hid (HB7.out.trans (HPA.out.mono HB7.out.size))
   have HSZ9 : Hid (w5.heap.size <= w8.heap.size) := hid HB8.out.size
   clear ho hes hln hbA
   go_wp2_with fail
   refine ⟨rfl, ?_⟩
   refine headI_end (by kernel_rfl) HPA.out ?_
   simp only [List.take, List.drop]
   go_wp2_with (first
    | ((with_reducible refine at_op ⟨none, .store 193 (.tmp 7) (.tmp 78), _, _, _, _⟩ ?_); refine wpList_store_blk rfl 193 (.tmp 7) (.tmp 78) rfl w8.heap.size 0 rfl [.int .i64 (X.cur : Int), .int .i64 ((21 : Int) + ((bodyR (X.rs ++ X.wr)).length : Nat) + 17), .slice A8 es.length c8] rfl (by simp [Value.oneCell']) 193 _ HN8.out (by simp) (by kernel_rfl) ?_; intro w9 hT9 hg9 _; rw [put3] at hT9; have HT9 := hid hT9; have HG9 := hid hg9; clear hT9 hg9)
    | fail)
   go_meet
   exact ⟨w8.heap.size, es, A8, c8, rfl, HT9, hid (HesAt.of_own (HO8.out.kept HG9.out (Or.inr HNE.out))), HES, hid (Nat.le_trans HLN.out HCNL.out), hid (HP9.out.grown HG9.out HP9.out.size (fun k hk => by injection hk with hk; have h1 := HSZ9.out; omega))⟩
 case rest =>
  obtain ⟨b7, es, A8, c8, rfl, HHB, HHE, HES, HLE, HBX⟩ := hcut
  have e0 : wc.cell? ⟨b7, 0, none⟩ = some (.int .i64 (X.cur : Int)) := (HHB.out.cell 0).trans rfl
  have e1 : wc.cell? ⟨b7, 1, none⟩ = some (.int .i64 ((21 : Int) + ((bodyR (X.rs ++ X.wr)).length : Nat) + 17)) := (HHB.out.cell 1).trans rfl
  have e2 : wc.cell? ⟨b7, 2, none⟩ = some (.slice A8 es.length c8) := (HHB.out.cell 2).trans rfl
  have HOK : Hid (∀ y ∈ es, y.Ok) := hid (fun y hy => by
   obtain ⟨z, hz, rfl⟩ := HES.out y hy
   exact entH_ok HR.good (by have := HR.size; omega) hz)
  have HZ : Hid ((38 : Int) <= ((21 : Int) + ((bodyR (X.rs ++ X.wr)).length : Nat) + 17) /\ ((21 : Int) + ((bodyR (X.rs ++ X.wr)).length : Nat) + 17) <= 65536) := hid ⟨by omega, by have := HR.size; omega⟩
  have HEN := hid (hencode_any wc (X.cur : Int) ((21 : Int) + ((bodyR (X.rs ++ X.wr)).length : Nat) + 17) es HOK.out HLE.out (by omega) (by have := HH.out.cur; omega) HZ.out.1 HZ.out.2 A8 c8 HHE.out)
  have HLS : Hid (sumF (sealF X x :: l) = sumF (x :: l) + 17) := hid (sealF_size X x l)
  go_step
  refine wp_seq_var (fun K hK => ?_)
  go_cut [7] (fun v wx => v = .pointer (some ⟨b7, 0, none⟩) /\ ∃ hs no8 L8 G8, Hid (DK wx G8 d q (hs ++ sealF X x :: l) no8 L8) /\ Hid (Fx CK G5 G8 w5 wx) /\ Hid (Fin G8 wx) /\ Hid (HsOk X w5.heap.size hs) /\ Hid (no8 <= no3 + 5 /\ L8 <= L + 2 /\ ((sumF (hs ++ sealF X x :: l) : Nat) : Int) + 4079 <= q))
  case first =>
   clear hK
   have HEND : Hid (∀ wx, Below wc.heap.size wc wx -> ∃ hs no8 L8 G8, Hid (DK wx G8 d q (hs ++ sealF X x :: l) no8 L8) /\ Hid (Fx CK G5 G8 w5 wx) /\ Hid (Fin G8 wx) /\ Hid (HsOk X w5.heap.size hs) /\ Hid (no8 <= no3 + 5 /\ L8 <= L + 2 /\ ((sumF (hs ++ sealF X x :: l) : Nat) : Int) + 4079 <= q)) := hid (fun wx hb => ⟨[], no3 + 2, L, G5, hid (HK5.out.below (HBX.out.trans (hb.mono HBX.out.size))), hid (Fx.below (HBX.out.trans (hb.mono HBX.out.size))), hid (HF5.out.more (Nat.le_trans HBX.out.size hb.size)), hid (Or.inl rfl), hid ⟨by omega, by omega, by rw [List.nil_append, HLS.out]; have := HR.room; omega⟩⟩)
   go_wp2_with fail
   refine HEN.out.mono ?_
   rintro e w10 (⟨hr, A9, c9, rfl, ho9, hb9⟩ | ⟨hr, rfl, hb9⟩)
   ·have HB10 := hid hb9
    have HT10 := hid (HT5.out.1.below (HBX.out.trans (hb9.mono HBX.out.size)) HT5.out.1.lt)
    have HK10 := hid (HK5.out.below (HBX.out.trans (hb9.mono HBX.out.size)))
    have f0 : w10.cell? ⟨t, 0, none⟩ = some (.pointer (some ⟨d, 0, none⟩)) := (HT10.out.cell 0).trans (by rw [<- HT4.out.ed]; rfl)
    have f1 : w10.cell? ⟨t, 1, none⟩ = some (.int .i64 (X.i : Int)) := (HT10.out.cell 1).trans (by rw [show (X.i : Int) = p3.c.id from HT4.out.eid.symm]; rfl)
    have f2 : w10.cell? ⟨t, 2, none⟩ = some (.int .i64 p3.c.lim) := (HT10.out.cell 2).trans rfl
    have f3 : w10.cell? ⟨t, 3, none⟩ = some (.int .i64 p3.c.ret) := (HT10.out.cell 3).trans rfl
    have HHL := hid (hencL_len (X.cur : Int) ((21 : Int) + ((bodyR (X.rs ++ X.wr)).length : Nat) + 17) es (fun y hy => (HOK.out y hy).k1) HLE.out)
    have HRB := hid hr
    clear e0 e1 e2 hr ho9 hb9 HEN
    go_wp2_with fail
    clear f0 f1 f2 f3
    obtain ⟨hn, hhn⟩ : ∃ n, (hencL (X.cur : Int) ((21 : Int) + ((bodyR (X.rs ++ X.wr)).length : Nat) + 17) es).length = n := ⟨_, rfl⟩
    have HHN := hid hhn
    have hnb : (0 : Int) <= (hn : Int) /\ (hn : Int) <= 1073741824 := by have := HHL.out.2; rw [hhn] at this; omega
    rw [hhn]
    refine (room_any w10 G5 d q (sealF X x :: l) (no3 + 2) L HK10.out (X.i : Int) p3.c.lim p3.c.ret hn hnb).mono ?_
    rintro e w11 ⟨rfl, hb11⟩
    have HB11 : Hid (Below wc.heap.size wc w11) := hid (HB10.out.trans (hb11.mono HB10.out.size))
    clear hb11 hnb hhn
    by_cases hrm : (4096 : Int) <= q - (sumF (sealF X x :: l) : Nat) - hn
    ·have HRM := hid hrm
     rw [decide_eq_true hrm]
     clear hrm
     go_wp2_with fail
     have HT11 := hid (HT5.out.1.below (HBX.out.trans (HB11.out.mono HBX.out.size)) HT5.out.1.lt)
     have HHB11 := hid (HHB.out.below HB11.out HHB.out.lt)
     have k0 := fun d' os => cell_regrown (show w11.cell? ⟨t, 0, none⟩ = some (.pointer (some ⟨d, 0, none⟩)) from (HT11.out.cell 0).trans (by rw [<- HT4.out.ed]; rfl)) d' os
     have k1 := fun d' os => cell_regrown (show w11.cell? ⟨t, 1, none⟩ = some (.int .i64 (X.i : Int)) from (HT11.out.cell 1).trans (by rw [show (X.i : Int) = p3.c.id from HT4.out.eid.symm]; rfl)) d' os
     have kE := regrown_cells HHB11.out 0 [.int .i64 (X.cur : Int), .int .i64 ((21 : Int) + ((bodyR (X.rs ++ X.wr)).length : Nat) + 17), .slice A8 es.length c8] (by intro j v hj; rw [Nat.zero_add]; rcases j with _ | _ | _ | j <;> first | exact hj | simp at hj)
     refine wp_quiet_tail 11 (by kernel_rfl) (by kernel_rfl) (by kernel_rfl) ?_
     simp only [List.take, List.drop]
     repeat (first | go_big_quiet_skip | (with_reducible refine wpQuiet_load_list (o := ⟨some 105, .load 193 (.tmp 7), _, _, _, _⟩) rfl 193 (.tmp 7) rfl ⟨b7, 0, none⟩ rfl _ kE _ Tryz.underlying193 rfl (by kernel_rfl) ?_; simp only [Act.put, List.setIfInBounds_toArray, List.set_cons_succ, List.set_cons_zero]) | (go_big_quiet_want; go_big_quiet_op; go_big_quiet_on))
     refine wpQuiet_nil ?_
     intro wq hw'
     obtain ⟨⟨dq, osq⟩, hw''⟩ := hw'
     have HBQ : Hid (Below w5.heap.size w5 wq) := by rw [hw'']; exact hid (HBX.out.trans ((HB11.out.trans ((below_regrown w11 dq osq).mono HB11.out.size)).mono HBX.out.size))
     have HHQ : Hid (HesAt wq A8 es) := by rw [hw'']; exact hid (HHE.out.below (HB11.out.trans ((below_regrown w11 dq osq).mono HB11.out.size)))
     clear hw'' k0 k1 kE
     go_wp2_with fail
     refine (write_any wq G5 d q (sealF X x :: l) (no3 + 2) L (HK5.out.below HBQ.out) (HF5.out.more HBQ.out.size) (by have h1 := HF3.out.2; have h2 := HR.no1; omega) (by have := HR.L1; omega) (by have := HR.len; rw [List.length_cons]; omega) (X.i : Int) (X.cur : Int) ((21 : Int) + ((bodyR (X.rs ++ X.wr)).length : Nat) + 17) es HOK.out HLE.out (okn HH.out.i) (okn (by have := HH.out.cur; omega)) HZ.out.1 HZ.out.2 HRB.out A8 c8 HHQ.out (HTG5.out.below HBQ.out).1 (fun y hy => by
      rcases List.mem_cons.1 hy with rfl | hy
      ·exact HR.nhint x List.mem_cons_self
      ·exact HR.nhint y (List.mem_cons_of_mem _ hy)) (by have h1 := HRM.out; rw [HHN.out]; omega)).mono ?_
     rintro e w12 ⟨f, hf, G8, rfl, hk, hx, hfn, _⟩
     have HK12 := hid hk
     have HX12 : Hid (Fx CK G5 G8 w5 w12) := hid ((Fx.below HBQ.out).trans hx)
     have HF12 := hid hfn
     have HFF : Hid (w5.heap.size <= f) := hid (Nat.le_trans HBQ.out.size hf)
     clear hf hk hx hfn
     go_wp2_with fail
     go_meet
     refine ⟨rfl, [_], no3 + 5, L + 2, G8, HK12, HX12, HF12, hid (Or.inr ⟨es, f, HFF.out, rfl, HES.out, HLE.out, HRB.out⟩), hid ⟨by omega, by omega, ?_⟩⟩
     have h1 := HRM.out
     have h2 := HHN.out
     rw [List.singleton_append, sumF_new, h2]
     omega
    ·rw [decide_eq_false hrm]
     go_wp2_with fail
     go_meet
     exact ⟨rfl, HEND.out _ HB11.out⟩
   ·have HB10 := hid hb9
    clear e0 e1 e2 hr hb9 HEN
    go_wp2_with fail
    go_meet
    exact ⟨rfl, HEND.out _ HB10.out⟩
  case rest =>
   obtain ⟨rfl, hs, no8, L8, G8, HK8, HX8, HF8, HHS, HNL⟩ := hcut
   clear e0 e1 e2 HEN
   go_step
   go_wp2_with fail
   have HEM : Hid (p3.c.man = X.man) := hid HT4.out.eman
   have HTT : Hid (TabG wc G8) := hid (HTG5.out.keep HX8.out ck_other)
   have HPM : Hid ((hs ++ sealF X x :: l).Perm (xm :: (hs ++ sealF X x :: l'))) := hid (by
    refine ((HR.perm.cons (sealF X x)).append_left hs).trans ?_
    refine (List.Perm.append_left hs (List.Perm.swap xm (sealF X x) l')).trans ?_
    exact List.perm_middle)
   have HSM8 : Hid (∀ z ∈ hs ++ sealF X x :: l, z.name = Sb (hintN X.i X.cur) \/ ∃ y ∈ x :: l, z.name = y.name) := hid (fun z hz => by
    rcases List.mem_append.1 hz with hz | hz
    ·rcases HHS.out with h0 | ⟨es', f', _, h0, _⟩
     ·rw [h0] at hz; cases hz
     ·rw [h0] at hz
      obtain rfl := List.mem_singleton.1 hz
      exact Or.inl rfl
    ·rcases List.mem_cons.1 hz with rfl | hz
     ·exact Or.inr ⟨x, List.mem_cons_self, rfl⟩
     ·exact Or.inr ⟨z, List.mem_cons_of_mem _ hz, rfl⟩)
   have HHL8 : Hid (hs.length <= 1) := hid (by rcases HHS.out with h0 | ⟨_, _, _, h0, _⟩ <;> rw [h0] <;> simp)
   have hi := okn HH.out.i
   have hcu := okn (n := X.cur) (by have := HH.out.cur; omega)
   have hcu1 := okn (n := X.cur + 1) (by have := HH.out.cur; omega)
   have HXT : ExtH wc G8 τ t p3.c X.i (X.cur + 1) (X.en + X.wr.length) X.clock X.lim q (hs ++ sealF X x :: l) (hs ++ sealF X x :: l') no8 L8 p3.tm p3.tn X.DA p3.cn p3.CD :=
    {top := HT5.out.keep HX8.out ck_other
     eid := HT4.out.eid
     elim := HT4.out.elim
     enext := HT4.out.enext
     eclock := HT4.out.eclock
     enseg := HT4.out.enseg
     i1 := HH.out.i
     ns1 := by have := HH.out.cur; omega
     en1 := by have := HH.out.en; omega
     lim0 := HR.lim0
     lim1 := HR.lim1
     segs := by rw [HEM.out]; exact ints_keep (ints_keep HT4.out.segs HT4.out.cold HX5.out cks_none) (HT4.out.cold.keep HX5.out) HX8.out ck_other
     cold := (HT4.out.cold.keep HX5.out).keep HX8.out
     segsl := by rw [HEM.out]; exact HR.segs
     tab := (HT4.out.tab.keep HX5.out (cks_no (by simp) (by simp) (by simp)) (cks_no (by simp) (by simp) (by simp))).keep HX8.out ck_other ck_other
     tabok := HR.tabok
     cached := HC5.out.keep HX8.out ck_other
     cnl := by have h1 : p3.cn <= X.en + X.wr.length + X.cur := HT4.out.cn1; have h2 := HR.cn; omega
     dk := by rw [HT4.out.ed]; exact HK8.out
     fin := HF8.out
     tg := HTT.out
     no1 := by have h1 := HNL.out.1; have h2 := HF3.out.2; have h3 := HR.no1; omega
     L1 := by have h1 := HNL.out.2.1; have h3 := HR.L1; omega
     len := by have h1 := HHL8.out; have h2 := HR.len; simp only [List.length_append, List.length_cons]; omega
     nm := fun z hz e => by
      rcases HSM8.out z hz with h0 | ⟨y, hy, h0⟩
      ·rw [h0, hintN_f, nameN_f] at e
       exact seg_hint hcu1 hcu (sbf_inj hi hi e).2.symm
      ·exact HR.nseg y hy (h0.symm.trans e)
     ntmp := fun z hz e => by
      rcases HSM8.out z hz with h0 | ⟨y, hy, h0⟩
      ·rw [h0, hintN_f, tmp_f] at e
       exact hint_tmp hcu (sbf_inj hi hi e).2
      ·exact HR.ntmp y hy (h0.symm.trans e)
     man := Or.inr ⟨xm, HR.mnm, HPM.out⟩
     ok := fun ps h1 h2 => by rw [HEM.out]; exact HR.manok ps h1 h2
     room := fun ps h1 h2 => by
      rw [HEM.out]
      have h3 := HR.manl ps h1 h2
      have h4 := HNL.out.2.2
      rw [rollM] at h3
      omega }
   have HXT := hid HXT
   clear hi hcu hcu1
   refine (extend_any wc G8 τ t p3.c X.i (X.cur + 1) (X.en + X.wr.length) X.clock X.lim q (hs ++ sealF X x :: l) (hs ++ sealF X x :: l') no8 L8 p3.tm p3.tn X.DA p3.cn p3.CD HXT.out).mono ?_
   rintro e w' ⟨G', g, A, ca, B, cb, ps, f, f2, rfl, hps, hpl, htop, hA, hcA, hB, hcB, hseg, hcache, hdk, hfx, hfin⟩
   rw [HEM.out] at htop hA hdk
   rw [HT4.out.ed] at hseg hdk
   have HOUT : Hid (RollOut w G τ t d X x l' q no L (.returned (.int .i64 0)) w') := hid (by
    refine ⟨G', ps, hs, f, f2, no8 + 8, L8 + 6, rfl, hps, hpl, ?_, ⟨{ p3 with c := { p3.c with man := rollM X ps, sA := A, sc := ca, pA := B, pc := cb, seg := some ⟨g, 0, none⟩, nextSeg := ((X.cur + 1 + 1 : Nat) : Int) }, g := g, cn := p3.cn + 1, CD := p3.CD.put (.int .i64 ((X.cur + 1 : Nat) : Int)) .nil }, ?_⟩, ?_, ?_, ?_, ?_⟩
    ·rcases HHS.out with h0 | ⟨es', f', hf', h0⟩
     ·exact Or.inl h0
     ·exact Or.inr ⟨es', f', Nat.le_trans (Nat.le_trans HX4.out.size HX5.out.size) hf', h0⟩
    ·exact
     {top := htop
      ed := HT4.out.ed
      eid := HT4.out.eid
      elim := HT4.out.elim
      eret := HT4.out.eret
      eman := rfl
      eseg := rfl
      ewn := HT4.out.ewn
      enext := HT4.out.enext
      eclock := HT4.out.eclock
      enseg := rfl
      egone := HT4.out.egone
      segs := hA
      cold := hcA
      seg := by rw [rollS_seg]; exact hseg
      dir := ((HT4.out.dir.keep HX5.out (cks_no (by simp) (by simp) (by simp)) cks_none).keep HX8.out ck_other ck_other).keep hfx (cx_no (by simp) (by simp)) cx_none
      tab := ((HT4.out.tab.keep HX5.out (cks_no (by simp) (by simp) (by simp)) (cks_no (by simp) (by simp) (by simp))).keep HX8.out ck_other ck_other).keep hfx (cx_no (by simp) (by simp)) (cx_no (by simp) (by simp))
      all := ((HT4.out.all.keep HX5.out (cks_no (by simp) (by simp) (by simp)) (cks_no (by simp) (by simp) (by simp))).keep HX8.out ck_other ck_other).keep hfx (cx_no (by simp) (by simp)) (cx_no (by simp) (by simp))
      waits := ((HT4.out.waits.keep HX5.out (cks_no (by simp) (by simp) (by simp))).keep HX8.out ck_other).keep hfx (cx_no (by simp) (by simp))
      cached := hcache
      rows := fun s rl hm => by
       rw [rollS_rows] at hm
       rcases List.mem_append.1 hm with hm | hm
       ·have hne : s ≠ X.cur + 1 := by
         simp only [TS.rows, commitS, List.mem_append, List.mem_map, List.mem_singleton, Prod.mk.injEq] at hm
         rcases hm with ⟨o, ho, rfl, _⟩ | ⟨rfl, _⟩
         ·exact HR.olds o ho
         ·omega
        obtain ⟨o2, A2, cp2, h1, h2, h3⟩ := (((HT4.out.rows s rl hm).keep HX5.out (cks_no (by simp) (by simp) (by simp))).keep HX8.out ck_other).keep hfx (cx_no (by simp) (by simp))
        exact ⟨o2, A2, cp2, h1, (atKey_put_other (by intro e; injection e with _ e; exact hne (Int.ofNat.inj e)) _ _).trans h2, h3⟩
       ·obtain ⟨rfl, rfl⟩ : s = X.cur + 1 /\ rl = [] := by simpa using hm
        exact ⟨none, none, 0, rfl, atKey_put_same HC5.out.1.isMap isKeyLit_int _ _, World.ownsRow_nil _ _ _ _, fun b hb => by cases hb⟩
      dk := hdk
      fin := hfin
      tg := HTT.out.keep hfx cx_none
      cn1 := Nat.succ_le_succ HT4.out.cn1
      an1 := HT4.out.an1
      tnm := HT4.out.tnm }
    ·exact (((HX4.out.trans (HX5.out.mono ct_s)).trans (HX8.out.mono ct_k))).trans (hfx.mono cx_ct)
    ·have h1 := HNL.out.1; have h2 := HF3.out.2; omega
    ·have h1 := HNL.out.2.1; omega
    ·exact roll_sum HPM.out HNL.out.2.2 (HR.manl ps hps hpl))
   clear hps hpl htop hA hcA hB hcB hseg hcache hdk hfx hfin
   go_wp2_with fail
   go_ret
   exact HOUT.out
end Go.Proofs.YtendlmdmbkcdnaaGreatDoor.tp
namespace Go.Proofs.YtendlmdmbkcdnaaGreatDoor.tp
open Go.RowKit Go.Maps Go.WideMaps oc rc gh dk sg ma hi kd dd
theorem knows_ex {D : DataW Unit} {nx : Nat} (H : TabOk D nx) (pid : Int) : ∃ known a s o, Knows D pid known a s o /\ 0 <= s /\ s < 1099511627776 := by
 cases hk : Maps.has D (key pid)
 ·exact ⟨false, 0, 0, 0, ⟨atKey_of_not_has hk _, hk⟩, by omega, by omega⟩
 ·obtain ⟨s, o, h1, _, _, h2, h3, _⟩ := H.2 pid hk
  exact ⟨true, pid, s, o, ⟨h1, hk⟩, by omega, by omega⟩
theorem goodP_of {r : Rc} (h : checkN r = 0) (hp : r.pid ≠ 0) : 0 < r.pid /\ goodP r.pid r.seq = true := by
 obtain ⟨kind, off, time, pid, seq, hr, hg⟩ := good_of h
 have e3 : r.pid = (pid : Nat) := by rw [hr]
 have h6 : wi r.seq 1 1099511627776 = true := by
  unfold checkN at h
  cases hb : wi r.seq 1 1099511627776 with
  | true => rfl
  | false =>
   exfalso
   by_cases h1 : r.kind ≠ 1 /\ r.kind ≠ 2
   ·rw [if_pos h1] at h; omega
   rw [if_neg h1] at h
   by_cases h2 : wi r.off 0 1099511627776 = false
   ·rw [if_pos h2] at h; omega
   rw [if_neg h2] at h
   by_cases h3 : wi r.time 0 1125899906842624 = false
   ·rw [if_pos h3] at h; omega
   rw [if_neg h3] at h
   by_cases h4 : wi r.pid 0 4294967296 = false
   ·rw [if_pos h4] at h; omega
   rw [if_neg h4] at h
   by_cases h5 : r.pid = 0 /\ r.seq ≠ 0
   ·rw [if_pos h5] at h; omega
   rw [if_neg h5, if_pos ⟨hp, hb⟩] at h
   omega
 have h7 := (wi_iff _ _ _).1 h6
 have h8 := hg.p
 refine ⟨by omega, ?_⟩
 simp only [goodP, Bool.and_eq_true, decide_eq_true_eq]
 omega
theorem seq0_of {r : Rc} (h : checkN r = 0) (hp : r.pid = 0) : r.seq = 0 := by
 obtain ⟨kind, off, time, pid, seq, hr, hg⟩ := good_of h
 have e3 : r.pid = (pid : Nat) := by rw [hr]
 have e4 : r.seq = (seq : Nat) := by rw [hr]
 have h1 := hg.q0 (by omega)
 omega
theorem judges {D : DataW Unit} {nx : Nat} (t m n : Nat) (H : TabOk D nx) (r : Rc) (hr : checkN r = 0) : ∃ v ov : Int,
  (∀ W, TabAt W t m n D -> Calls Tryz.prog 48 #[.pointer (some ⟨t, 0, none⟩), .int .i64 r.pid, .int .i64 r.seq] W fun e w' => e = .returned (.tuple #[.int .i64 v, .int .i64 ov]) /\ Below W.heap.size W w') /\
  (∀ W, TabAt W t m n D -> Calls Tryz.prog 49 #[.pointer (some ⟨t, 0, none⟩), .int .i64 r.pid, .int .i64 r.seq] W fun e w' => e = .returned (.int .i64 (refN v)) /\ Below W.heap.size W w') /\
  ((v = 0 /\ r.pid = 0 /\ r.seq = 0) \/ (0 < r.pid /\ goodP r.pid r.seq = true /\ ∃ known a s o, Knows D r.pid known a s o /\ 0 <= s /\ s < 1099511627776 /\ v = (judgeN known s o r.seq (Maps.size D)).1 /\ ov = (judgeN known s o r.seq (Maps.size D)).2 /\ (v = 1 \/ v = 2 \/ v = 3 \/ v = 4 \/ v = 5))) := by
 by_cases hp : r.pid = 0
 ·have hs := seq0_of hr hp
  refine ⟨0, 0, fun W hW => ?_, fun W hW => ?_, Or.inl ⟨rfl, hp, hs⟩⟩
  ·rw [hp, hs]
   refine (judge_free W t).mono ?_
   rintro e w' ⟨rfl, rfl⟩
   exact ⟨rfl, Below.refl _ _⟩
  ·rw [hp, hs]
   exact refuse_free W t
 ·obtain ⟨h0, hg⟩ := goodP_of hr hp
  obtain ⟨known, a, s, o, hk, hs0, hs1⟩ := knows_ex H r.pid
  exact ⟨_, _, fun W hW => judge_any W t m n D hW r.pid r.seq a s o known hg hk ⟨hs0, hs1⟩, fun W hW => refuse_any W t m n D hW r.pid r.seq a s o known hg hk ⟨hs0, hs1⟩, Or.inr ⟨h0, hg, known, a, s, o, hk, hs0, hs1, rfl, rfl, judge_cases known s o r.seq (Maps.size D)⟩⟩
end Go.Proofs.YtendlmdmbkcdnaaGreatDoor.tp
namespace Go.Proofs.YtendlmdmbkcdnaaGreatDoor.tp
open Go.RowKit Go.Maps Go.WideMaps oc rc gh dk sg ma hi kd dd
open Go.Lib (hid)
set_option maxRecDepth 100000
def clockS (X : TS) (k : Nat) : TS := { X with clock := k }
theorem TopG.clock {w w' : World} {G : Gh} {τ t d : Nat} {X : TS} {q : Int} {fs : List Fil} {no L : Nat} {p : Pts} (h : TopV w G τ t d X q fs no L p) (k : Nat) (hF : Fx (CR (some (τ, .top))) G G w w') (ht : Blk w' t 110 (Tc.cells { p.c with clock := (k : Int) })) :
  TopV w' G τ t d (clockS X k) q fs no L { p with c := { p.c with clock := (k : Int) } } :=
 { h with
  top := ⟨ht, h.top.2.keep hF h.top.1.lt⟩
  eclock := rfl
  segs := ints_keep h.segs h.cold hF cr_none
  cold := h.cold.keep hF
  seg := h.seg.keep hF (cr_top (by simp)) (cr_top (by simp)) (cr_top (by simp))
  dir := h.dir.keep hF (cr_top (by simp)) cr_none
  tab := h.tab.keep hF (cr_top (by simp)) (cr_top (by simp))
  all := h.all.keep hF (cr_top (by simp)) (cr_top (by simp))
  waits := h.waits.keep hF (cr_top (by simp))
  cached := h.cached.keep hF (cr_top (by simp))
  rows := fun s l hs => (h.rows s l hs).keep hF (cr_top (by simp))
  dk := h.dk.keep hF (fun _ _ x => x.1) (fun i hi => (h.fin i hi).1)
  fin := h.fin.more hF.size
  tg := h.tg.keep hF cr_none }
set_option maxHeartbeats 4000000 in
theorem append_time (w : World) (G : Gh) (τ t d : Nat) (X : TS) (q : Int) (fs : List Fil) (no L : Nat) (h : TopAt w G τ t d X q fs no L) (now : Int) (ky vl : ByteArray) (tb : Bool) (pid sq : Int) (hn : ¬ (0 <= now /\ now < 1125899906842624)) :
  Calls Tryz.prog 13 #[.pointer (some ⟨t, 0, none⟩), .int .i64 now, .agg #[.string ky, .string vl, .bool tb, .int .i64 pid, .int .i64 sq]] w fun e w' => e = .returned (.tuple #[.int .i64 0, .bool false, .int .i64 3]) /\ Below w.heap.size w w' := by
 obtain ⟨p, h⟩ := h
 obtain ⟨w1, hw1⟩ : ∃ y, w.alloc (.cells #[.string ky, .string vl, .bool tb, .int .i64 pid, .int .i64 sq] 35) = y := ⟨_, rfl⟩
 have HB1 : Hid (Below w.heap.size w w1) := by rw [<- hw1]; exact hid ((Below.refl _ _).alloc (Nat.le_refl _) _)
 have c21 : w1.cell? ⟨t, 21, none⟩ = some (.bool false) := ((h.below HB1.out).top.cell 21).trans (by rw [<- h.egone]; rfl)
 have hno : (decide (0 <= now) && decide (now < 1125899906842624)) = false := by
  rw [<- Bool.not_eq_true, Bool.and_eq_true, decide_eq_true_eq, decide_eq_true_eq]
  exact hn
 have HIT := hid (isTime_any w1 now)
 rw [hno] at HIT
 clear h hn hno
 go_enter Tryz.func13, Tryz.ntmps13
 go_wp2_with fail
 try rw [hw1]
 refine HIT.out.mono ?_
 rintro e w2 ⟨rfl, rfl⟩
 clear hw1 HIT
 go_wp2_with fail
 go_ret3
 exact ⟨rfl, HB1.out⟩
theorem put7 (a0 a1 a2 a3 a4 a5 a6 b0 b1 b2 b3 b4 b5 b6 : Value) : putFrom #[b0, b1, b2, b3, b4, b5, b6] 0 [a0, a1, a2, a3, a4, a5, a6] = #[a0, a1, a2, a3, a4, a5, a6] := by simp [putFrom]
theorem CmH.clock {X : TS} {fs : List Fil} {x : Fil} {l : List Fil} (h : CmH X fs x l) {k : Nat} : CmH (clockS X k) fs x l :=
 ⟨h.offs, h.good, h.short, h.count, h.en, h.i, h.cur, h.wl, h.rl, h.olds, h.size, h.da, h.perm, h.name, h.oldn⟩
theorem keep_new {w wx wy : World} {G G' : Gh} {τ b : Nat} {t : TypeId} {cs : Array Value} (hf : Fin G w) (hX : Fx (CT τ) G G' wx wy) (hb : w.heap.size <= b) (h : Blk wx b t cs) : Blk wy b t cs :=
 blk_keepH h (hX.keep b h.lt (by
  intro hc
  rw [(hf b hb).1, (hf b hb).2] at hc
  exact ct_none hc))
def MidS (X : TS) (ck rn : Nat) (fs : List Fil) (x : Fil) (l : List Fil) (q : Int) (no L : Nat) (X2 : TS) (fs2 : List Fil) (no2 L2 : Nat) : Prop :=
 (X2 = clockS X ck /\ fs2 = fs /\ no2 = no /\ L2 = L /\ ((X.rs ++ X.wr).length = 0 \/ 21 + (bodyR (X.rs ++ X.wr)).length + rn + 17 <= X.lim)) \/
 ∃ ps hs f f2 xm l' B, ProdsOk (X.en + X.wr.length) ps /\ ps.length <= 64 /\ HsOk (clockS X ck) B hs /\ X2 = rollS (clockS X ck) ps /\
  fs2 = (⟨Sb (manName X.i), f2, fNew (manN (rollM (clockS X ck) ps))⟩ :: ⟨Sb (nameN X.i ((X.cur + 1 : Nat) : Int)), f, fSync (fApp ⟨[], [], []⟩ (headN X.i (X.cur + 1) (X.en + X.wr.length)))⟩ :: (hs ++ sealF (clockS X ck) x :: l')) /\ RollH (clockS X ck) x l xm l' q no L /\ no2 <= no + 14 /\ L2 <= L + 8 /\ ((sumF fs2 : Nat) : Int) + 1124 <= q
structure AppH (X : TS) (fs : List Fil) (x : Fil) (l : List Fil) (q : Int) (no L : Nat) : Prop where
 base : X.base + X.rs.length = X.en
 lim0 : 256 <= X.lim
 lim1 : X.lim <= 65536
 cmh : CmH X fs x l
 da : X.wr = [] -> X.DC = X.DA
 no0 : no <= 1099511627776
 st : ∀ k, StH (commitS (clockS X k))
 clk : X.clock < 1125899906842624
 roll : ∀ k, k < 1125899906842624 -> ((sumF (x :: l) : Nat) : Int) + 4096 <= q -> 0 < (X.rs ++ X.wr).length -> X.man.segs.length <= 63 -> ∃ xm l', RollH (clockS X k) x l xm l' q no L
 offs : ∀ k r, X.wr[k]? = some r -> r.off = ((X.en + k : Nat) : Int)
 en : X.en + X.wr.length <= 1073741824
 tabok : TabOk X.DA (X.en + X.wr.length)
 wl : X.wr.length <= 65536
 rl : X.rs.length <= 65536
 body : (bodyR (X.rs ++ X.wr)).length <= 1000000000
theorem next_is {w : World} {G : Gh} {τ t d : Nat} {X : TS} {q : Int} {fs : List Fil} {no L : Nat} {p : Pts} {c : Int} (h : TopV w G τ t d X q fs no L p) (hoff : ∀ k r, X.wr[k]? = some r -> r.off = ((X.en + k : Nat) : Int)) (h2 : X.en + X.wr.length <= 1073741824) :
  nextN { p.c with clock := c } (waitsAt X.wpos X.wr) = ((X.en + X.wr.length : Nat) : Int) := by
 by_cases hz : 0 < X.wr.length
 ·have hlast : X.wr[X.wr.length - 1]? = some (X.wr[X.wr.length - 1]'(by omega)) := List.getElem?_eq_getElem _
  have hlo := hoff _ _ hlast
  have hwl := waits_get X.wpos X.wr _ _ hlast
  rw [nextN, List.getLast?_eq_getElem?, waits_len, hwl]
  simp only
  rw [hlo, Go.IntWalk.wrap64_in _ (by omega)]
  omega
 ·have hw0 : X.wr = [] := List.eq_nil_of_length_eq_zero (by omega)
  rw [hw0]
  simp only [waitsAt, nextN, List.getLast?_nil, List.length_nil, Nat.add_zero]
  exact h.enext
theorem mid_ap {X : TS} {fs : List Fil} {x : Fil} {l : List Fil} {q : Int} {no L ck : Nat} (HA : AppH X fs x l q no L) (r : Rc) (hc : checkN r = 0) (ho : r.off = ((X.en + X.wr.length : Nat) : Int)) (hm : (4096 : Int) <= q - (sumF fs : Nat) - ((encR r).length : Nat)) {X2 : TS} {fs2 : List Fil} {no2 L2 : Nat} (h : MidS X ck (encR r).length fs x l q no L X2 fs2 no2 L2) :
  ∃ x2 l2, fs2.Perm (x2 :: l2) /\ ApH X2.seg r x2 q l2 /\ no2 <= 1099511627776 := by
 have hs := encR_size hc
 rcases h with ⟨rfl, rfl, rfl, rfl, hr⟩ | ⟨ps, hs', f, f2, xm, l', B, hps, hpl, hhs, rfl, rfl, hR, hn, hL, hsum⟩
 ·refine ⟨x, l, HA.cmh.perm, ?_, HA.no0⟩
  have hcnt : (X.rs ++ X.wr).length = X.rs.length + X.wr.length := List.length_append
  have hbase := HA.base
  have hb := HA.body
  have hw := HA.wl
  have hr2 := HA.rl
  have hl0 := HA.lim0
  have hl1 := HA.lim1
  constructor
  ·exact okn HA.cmh.i
  ·exact okn (by have := HA.cmh.cur; show X.cur < _; omega)
  ·exact HA.cmh.name
  ·rfl
  ·exact hc
  ·show (X.base : Int) - 1 + ((X.rs ++ X.wr).length : Nat) < r.off
   rw [ho, hcnt]
   omega
  ·show (0 : Int) <= 21 + ((bodyR (X.rs ++ X.wr)).length : Nat)
   omega
  ·show (21 : Int) + ((bodyR (X.rs ++ X.wr)).length : Nat) <= 1073741824
   omega
  ·show (0 : Int) <= (X.lim : Int)
   omega
  ·show (X.lim : Int) <= 1073741824
   omega
  ·show (X.rs ++ X.wr).length = 0 \/ (21 : Int) + ((bodyR (X.rs ++ X.wr)).length : Nat) + ((encR r).length : Nat) + 17 <= (X.lim : Int)
   rcases hr with hr | hr
   ·exact Or.inl hr
   ·exact Or.inr (by omega)
  ·show (X.rs ++ X.wr).length <= 1073741824
   omega
  ·show (X.rs ++ X.wr).length <= 1073741824
   omega
  ·exact extN_lt (by decide) _
  ·rw [<- sumF_perm HA.cmh.perm]
   omega
 ·refine ⟨_, _, List.Perm.swap _ _ _, ?_, by have := hR.no1; omega⟩
  rw [rollS_seg]
  have hl0 := HA.lim0
  have hl1 := HA.lim1
  constructor
  ·exact okn HA.cmh.i
  ·exact okn (n := X.cur + 1) (by have := HA.cmh.cur; omega)
  ·rfl
  ·rfl
  ·exact hc
  ·show ((X.en + X.wr.length : Nat) : Int) - 1 < r.off
   rw [ho]
   omega
  ·show (0 : Int) <= 21
   decide
  ·show (21 : Int) <= 1073741824
   decide
  ·show (0 : Int) <= (X.lim : Int)
   omega
  ·show (X.lim : Int) <= 1073741824
   omega
  ·exact Or.inl rfl
  ·show (0 : Nat) <= 1073741824
   decide
  ·show (0 : Nat) <= 1073741824
   decide
  ·exact extN_lt (by decide) _
  ·have e := sumF_perm (List.Perm.swap (⟨Sb (nameN X.i ((X.cur + 1 : Nat) : Int)), f, fSync (fApp ⟨[], [], []⟩ (headN X.i (X.cur + 1) (X.en + X.wr.length)))⟩ : Fil) ⟨Sb (manName X.i), f2, fNew (manN (rollM (clockS X ck) ps))⟩ (hs' ++ sealF (clockS X ck) x :: l'))
   omega
end Go.Proofs.YtendlmdmbkcdnaaGreatDoor.tp
namespace Go.Proofs.YtendlmdmbkcdnaaGreatDoor.dd
open Go.RowKit Go.Maps Go.WideMaps oc
open Go.Lib (hid)
set_option maxRecDepth 100000
set_option maxHeartbeats 4000000 in
theorem note_free (w : World) (t : Nat) (off : Int) (ho : 0 <= off /\ off < 1099511627776) :
  Calls Tryz.prog 52 #[.pointer (some ⟨t, 0, none⟩), .int .i64 0, .int .i64 0, .int .i64 off] w fun e w' => e = .returned (.int .i64 0) /\ Below w.heap.size w w' := by
 have HRF := hid (refuse_free w t)
 have n2 : ∀ w, Calls Tryz.prog 111 #[.int .i64 off] w fun e w' => e = .returned (.bool true) /\ w' = w := fun w => by
  have := offset_any w off
  rwa [show (decide (0 <= off) && decide (off < 1099511627776)) = true by simp [ho.1, ho.2]] at this
 clear ho
 go_enter Tryz.func52, Tryz.ntmps52
 go_wp2_with fail
 refine HRF.out.mono ?_
 rintro e w1 ⟨rfl, hb1⟩
 have HB1 := hid hb1
 clear hb1
 go_wp2_with fail
 refine (n2 _).mono ?_
 rintro e w2 ⟨rfl, rfl⟩
 go_wp2_with fail
 refine (judge_free _ t).mono ?_
 rintro e w3 ⟨rfl, rfl⟩
 go_wp2_with fail
 go_ret
 exact ⟨rfl, HB1.out⟩
end Go.Proofs.YtendlmdmbkcdnaaGreatDoor.dd
