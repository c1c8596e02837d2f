/-
  Texts of the proof joined by a program: Tot Tou Tov Tow.
-/
import Derived.Test.YtendlmdmbkcdnaaGreatDoorVs
import Derived.RangeFuncNested
set_option linter.unusedSimpArgs false
set_option linter.unusedVariables false
namespace Go.Proofs.YtendlmdmbkcdnaaGreatDoor.tp
open Go.RowKit Go.Maps Go.WideMaps Go.Shelf oc rc gh dk sg ma hi kd dd
open Go.Lib (hid)
set_option maxRecDepth 100000
attribute [local go_sem] Oper.semAt_some
def stV (X : TS) (a b c : Int) : Value := .agg #[.int .i64 (X.i : Int), .int .i64 ((X.en + X.wr.length : Nat) : Int), .int .i64 (X.en : Int), .int .i64 (X.man.mark : Int), .int .i64 (X.clock : Int), .int .i64 (X.man.segs.length : Int), .int .i64 (X.wr.length : Int), .int .i64 a, .int .i64 b, .int .i64 c]
structure StH (X : TS) : Prop where
 rows : RowsOk X
 short : X.T.short
 offs : ∀ k r, X.wr[k]? = some r -> r.off = ((X.en + k : Nat) : Int)
 en : X.en + X.wr.length <= 1073741824
 wl : X.wr.length <= 65536
 keys : ∀ x ∈ X.rows, ∀ r ∈ x.2, r.key.size <= 64
theorem put10 (a0 a1 a2 a3 a4 a5 a6 a7 a8 a9 b0 b1 b2 b3 b4 b5 b6 b7 b8 b9 : Value) : putFrom #[b0, b1, b2, b3, b4, b5, b6, b7, b8, b9] 0 [a0, a1, a2, a3, a4, a5, a6, a7, a8, a9] = #[a0, a1, a2, a3, a4, a5, a6, a7, a8, a9] := by simp [putFrom]
def StI (w : World) (X : TS) (W : World) : Prop := ∃ a b c : Int, Blk W (w.heap.size + 1) 41 #[.int .i64 (X.i : Int), .int .i64 ((X.en + X.wr.length : Nat) : Int), .int .i64 (X.en : Int), .int .i64 (X.man.mark : Int), .int .i64 (X.clock : Int), .int .i64 (X.man.segs.length : Int), .int .i64 (X.wr.length : Int), .int .i64 a, .int .i64 b, .int .i64 c] /\ Blk W w.heap.size 41 #[.int .i64 0, .int .i64 0, .int .i64 0, .int .i64 0, .int .i64 0, .int .i64 0, .int .i64 0, .int .i64 0, .int .i64 0, .int .i64 0] /\ Below w.heap.size w W
theorem stI_own (w : World) (X : TS) (B : Nat) (hB : w.heap.size + 2 <= B) : OwnFrom B (fun (_ : List (ByteArray × KE)) W => StI w X W) := by
 rintro s W W' row ⟨a, b, c, h1, h2, h3⟩ hg hr
 exact ⟨a, b, c, h1.grown hg (fun e => by have := (hr _ e.symm).1; omega), h2.grown hg (fun e => by have := (hr _ e.symm).1; omega), h3.grown hg h3.size (fun k hk => by have := (hr k hk).1; omega)⟩
theorem kc_set (c : Nat) (W : World) (i : Nat) (v : Value) : Kc c W (W.setCell ⟨c, i, none⟩ v) := ⟨by rw [size_set]; exact Nat.le_refl _, fun j cs t fr hj h => (Below.heap_setCell _ _ _ _ (fun e => hj e)).trans h⟩
structure StL (w : World) (X : TS) (D : Nat) (W : World) : Prop where
 st : StI w X W
 dl : W.heap[D]? = some (.deferred (some []))
theorem StL.below {w : World} {X : TS} {D : Nat} {W : World} (h : StL w X D W) : Below w.heap.size w W := by
 obtain ⟨a, b, c, _, _, h3⟩ := h.st
 exact h3
theorem StL.keep {w : World} {X : TS} {D : Nat} {W W' : World} (h : StL w X D W) (hb : Below W.heap.size W W') : StL w X D W' := by
 obtain ⟨a, b, c, h1, h2, h3⟩ := h.st
 exact ⟨⟨a, b, c, h1.below hb h1.lt, h2.below hb h2.lt, h3.trans (hb.mono h3.size)⟩, (hb.block D (Array.getElem?_eq_some_iff.1 h.dl).1).trans h.dl⟩
theorem StL.set9 {w : World} {X : TS} {D : Nat} {W : World} {a b c : Int} (h1 : Blk W (w.heap.size + 1) 41 #[.int .i64 (X.i : Int), .int .i64 ((X.en + X.wr.length : Nat) : Int), .int .i64 (X.en : Int), .int .i64 (X.man.mark : Int), .int .i64 (X.clock : Int), .int .i64 (X.man.segs.length : Int), .int .i64 (X.wr.length : Int), .int .i64 a, .int .i64 b, .int .i64 c]) (h2 : Blk W w.heap.size 41 #[.int .i64 0, .int .i64 0, .int .i64 0, .int .i64 0, .int .i64 0, .int .i64 0, .int .i64 0, .int .i64 0, .int .i64 0, .int .i64 0]) (h3 : Below w.heap.size w W) (h4 : W.heap[D]? = some (.deferred (some []))) (z : Int) : StL w X D (W.setCell ⟨w.heap.size + 1, 9, none⟩ (.int .i64 z)) :=
 ⟨⟨a, b, z, h1.set_ 9 _, h2.far (by simp) _, h3.setCell (by simp) _⟩, (Below.heap_setCell _ _ _ _ (fun e => by
  rw [e, show W.heap[w.heap.size + 1]? = _ from h1] at h4
  cases h4)).trans h4⟩
theorem StL.set8 {w : World} {X : TS} {D : Nat} {W : World} {a b c : Int} (h1 : Blk W (w.heap.size + 1) 41 #[.int .i64 (X.i : Int), .int .i64 ((X.en + X.wr.length : Nat) : Int), .int .i64 (X.en : Int), .int .i64 (X.man.mark : Int), .int .i64 (X.clock : Int), .int .i64 (X.man.segs.length : Int), .int .i64 (X.wr.length : Int), .int .i64 a, .int .i64 b, .int .i64 c]) (h2 : Blk W w.heap.size 41 #[.int .i64 0, .int .i64 0, .int .i64 0, .int .i64 0, .int .i64 0, .int .i64 0, .int .i64 0, .int .i64 0, .int .i64 0, .int .i64 0]) (h3 : Below w.heap.size w W) (h4 : W.heap[D]? = some (.deferred (some []))) (z : Int) : StL w X D (W.setCell ⟨w.heap.size + 1, 8, none⟩ (.int .i64 z)) :=
 ⟨⟨a, z, c, h1.set_ 8 _, h2.far (by simp) _, h3.setCell (by simp) _⟩, (Below.heap_setCell _ _ _ _ (fun e => by
  rw [e, show W.heap[w.heap.size + 1]? = _ from h1] at h4
  cases h4)).trans h4⟩
abbrev PhT (t : Nat) (cs : Array Value) : World -> Prop := fun W => Blk W t 110 cs
set_option maxHeartbeats 16000000 in
theorem state_any (w : World) (G : Gh) (τ t d : Nat) (X : TS) (q : Int) (fs : List Fil) (no L : Nat) (h : TopAt w G τ t d X q fs no L) (H : StH X) :
  Calls Tryz.prog 10 #[.pointer (some ⟨t, 0, none⟩)] w fun e w' => (∃ a b c : Int, e = .returned (stV X a b c)) /\ Below w.heap.size w w' := by
 obtain ⟨p, h⟩ := h
 have HTV := hid h
 have HH := hid H
 have KT : Hid (∀ W, Below w.heap.size w W -> ∀ (j : Nat) (v : Value), p.c.cells[j]? = some v -> W.cell? ⟨t, j, none⟩ = some v) := hid (fun W hb j v hj => ((h.top.1.below hb h.top.1.lt).cell j).trans hj)
 clear h H
 refine (callsIn_wide (n := 5)).1 (callsIn_of_wp_marks Tryz.func10 rfl trivial ?_ rfl)
 rw [wpIn_wide]
 simp only [Tryz.ntmps10, List.size_toArray, List.length_cons, List.length_nil, Nat.reduceAdd, Nat.reduceSub, Array.replicate_succ, Array.replicate_zero, List.push_toArray, List.append_toArray, List.nil_append, List.cons_append]
 have c1 : ∀ o, (w.alloc o).cell? ⟨t, 1, none⟩ = some (.int .i64 (X.i : Int)) := fun o => KT.out _ ((Below.refl _ _).alloc (Nat.le_refl _) o) 1 _ (by rw [<- HTV.out.eid]; rfl)
 go_wp2_with (first
  | ((with_reducible refine at_op ⟨none, .store 41 (.tmp 3) (.tmp 19), _, _, _, _⟩ ?_); refine wpList_store_blk rfl 41 (.tmp 3) (.tmp 19) rfl (w.heap.size + 1) 0 rfl [.int .i64 (X.i : Int), .int .i64 0, .int .i64 0, .int .i64 0, .int .i64 0, .int .i64 0, .int .i64 0, .int .i64 0, .int .i64 0, .int .i64 0] rfl (by simp [Value.oneCell']) 41 _ (by have := Blk.new (w.alloc (.cells #[.int .i64 0, .int .i64 0, .int .i64 0, .int .i64 0, .int .i64 0, .int .i64 0, .int .i64 0, .int .i64 0, .int .i64 0, .int .i64 0] 41)) 41 #[.int .i64 0, .int .i64 0, .int .i64 0, .int .i64 0, .int .i64 0, .int .i64 0, .int .i64 0, .int .i64 0, .int .i64 0, .int .i64 0]; rw [World.size_alloc] at this; exact this) (by simp) (by kernel_rfl) ?_; intro w1 hT1 hg1 _; rw [put10] at hT1; have S1 := hid hT1; have B1 : Hid (Below w.heap.size w w1) := hid ((((Below.refl _ _).alloc (Nat.le_refl _) _).alloc (by simp) _).grown hg1 (by simp; omega) (fun k hk => by injection hk with hk; omega)); have R1 : Hid (Blk w1 w.heap.size 41 #[.int .i64 0, .int .i64 0, .int .i64 0, .int .i64 0, .int .i64 0, .int .i64 0, .int .i64 0, .int .i64 0, .int .i64 0, .int .i64 0]) := hid (((Blk.new w _ _).alloc _).grown hg1 (by intro e; injection e with e; omega)); have c21 : w1.cell? ⟨t, 21, none⟩ = some (.bool false) := KT.out w1 B1.out 21 _ (by rw [<- HTV.out.egone]; rfl); clear hT1 hg1)
  | fail)
 clear c1 c21
 have hoff := HH.out.offs
 have hnx : nextN p.c (waitsAt X.wpos X.wr) = ((X.en + X.wr.length : Nat) : Int) := by
  have h2 := HH.out.en
  by_cases hz : 0 < X.wr.length
  ·have hlast : X.wr[X.wr.length - 1]? = some (X.wr[X.wr.length - 1]'(by omega)) := List.getElem?_eq_getElem _
   have hlo := hoff _ _ hlast
   have hwl := waits_get X.wpos X.wr _ _ hlast
   rw [nextN, List.getLast?_eq_getElem?, waits_len, hwl]
   simp only
   rw [hlo, Go.IntWalk.wrap64_in _ (by omega)]
   omega
  ·have hw0 : X.wr = [] := List.eq_nil_of_length_eq_zero (by omega)
   rw [hw0]
   simp only [waitsAt, nextN, List.getLast?_nil, List.length_nil, Nat.add_zero]
   exact HTV.out.enext
 have HNX := hid hnx
 clear hoff hnx
 refine wp_region_head 22 (PhT t p.c.cells) (by kernel_rfl) (by kernel_rfl) (fun w2 hh2 hb2 => ?_)
 have B2 : Hid (Below w.heap.size w w2) := hid (B1.out.trans (hb2.mono B1.out.size))
 have S2 := hid (S1.out.below hb2 S1.out.lt)
 have R2 := hid (R1.out.below hb2 R1.out.lt)
 have HP2 : Hid (PhT t p.c.cells w2) := hid (HTV.out.top.1.below B2.out HTV.out.top.1.lt)
 have hne0 : Nonempty (Held (PhT t p.c.cells)) := ⟨⟨_, HP2.out⟩⟩
 have k16 : ∀ p' : Held (PhT t p.c.cells), p'.w.cell? ⟨t, 16, none⟩ = some (.int .i64 (X.en : Int)) := fun p' => (p'.h.cell 16).trans (by rw [<- HTV.out.enext]; rfl)
 have k7 : ∀ p' : Held (PhT t p.c.cells), p'.w.cell? ⟨t, 7, none⟩ = some (.int .i64 (X.man.mark : Int)) := fun p' => (p'.h.cell 7).trans (by rw [<- HTV.out.eman]; rfl)
 have k17 : ∀ p' : Held (PhT t p.c.cells), p'.w.cell? ⟨t, 17, none⟩ = some (.int .i64 (X.clock : Int)) := fun p' => (p'.h.cell 17).trans (by rw [<- HTV.out.eclock]; rfl)
 have k9 : ∀ p' : Held (PhT t p.c.cells), p'.w.cell? ⟨t, 9, none⟩ = some (.slice p.c.sA X.man.segs.length p.c.sc) := fun p' => (p'.h.cell 9).trans (by rw [<- HTV.out.eman]; rfl)
 have k15 : ∀ p' : Held (PhT t p.c.cells), p'.w.cell? ⟨t, 15, none⟩ = some (.slice p.c.wA X.wr.length p.c.wc) := fun p' => (p'.h.cell 15).trans (by rw [<- HTV.out.ewn]; rfl)
 have HLN : Hid (∀ W, Below w.heap.size w W -> PhT t p.c.cells W) := hid (fun W hb => HTV.out.top.1.below hb HTV.out.top.1.lt)
 clear hh2 hb2 S1 R1
 refine headI_batch 0 1 (by kernel_rfl) (by kernel_rfl) HP2.out ?_
 simp only [List.take, List.drop]
 repeat (first | go_big_quiet_skip | (go_big_quiet_want; go_big_quiet_op; go_big_quiet_on))
 refine wpQuiet_nil ?_
 refine headI_batch 2 13 (by kernel_rfl) (by kernel_rfl) HP2.out ?_
 simp only [List.take, List.drop]
 repeat (first | go_big_quiet_skip | (go_big_quiet_want; go_big_quiet_op; go_big_quiet_on))
 refine wpQuiet_nil ?_
 refine headI_loud 1 (by kernel_rfl) (by kernel_rfl) HP2.out ?_
 simp only [List.take, List.drop]
 go_wp2_with fail
 refine (next_any w2 t p.c (waitsAt X.wpos X.wr) HP2.out (by rw [waits_len]; exact HTV.out.ewn) 0 (own_below HTV.out.waits.1 B2.out) (by rw [waits_len]; have h1 := HH.out.wl; omega)).mono ?_
 rintro e w3 ⟨rfl, hw3⟩
 rw [hw3, HNX.out]
 clear hw3
 go_wp2_with fail
 refine ⟨rfl, ?_⟩
 refine headI_batch 15 1 (by kernel_rfl) (by kernel_rfl) (HLN.out _ B2.out) ?_
 simp only [List.take, List.drop]
 repeat (first | go_big_quiet_skip | (go_big_quiet_want; go_big_quiet_op; go_big_quiet_on))
 refine wpQuiet_nil ?_
 refine headI_loud 16 (by kernel_rfl) (by kernel_rfl) (HLN.out _ B2.out) ?_
 simp only [List.take, List.drop]
 go_wp2_with (first
  | ((with_reducible refine at_op ⟨none, .store 2 (.tmp 40) (.tmp 26), _, _, _, _⟩ ?_); refine wpList_store_one rfl 2 (.tmp 40) (.tmp 26) rfl (w.heap.size + 1) 1 rfl (.int .i64 ((X.en + X.wr.length : Nat) : Int)) rfl rfl rfl 41 _ S2.out (by simp) (by kernel_rfl) ?_; intro w4 hT4 hg4 hz4; clear hz4; have S4 : Hid (Blk w4 (w.heap.size + 1) 41 #[.int .i64 (X.i : Int), .int .i64 ((X.en + X.wr.length : Nat) : Int), .int .i64 0, .int .i64 0, .int .i64 0, .int .i64 0, .int .i64 0, .int .i64 0, .int .i64 0, .int .i64 0]) := hid hT4; have B4 : Hid (Below w.heap.size w w4) := hid (B2.out.grown hg4 B2.out.size (fun k hk => by injection hk with hk; omega)); have R4 : Hid (Blk w4 w.heap.size 41 #[.int .i64 0, .int .i64 0, .int .i64 0, .int .i64 0, .int .i64 0, .int .i64 0, .int .i64 0, .int .i64 0, .int .i64 0, .int .i64 0]) := hid (R2.out.grown hg4 (by intro e; injection e with e; omega)); clear hT4 hg4 S2 R2)
  | fail)
 refine ⟨rfl, ?_⟩
 refine headI_batch 17 1 (by kernel_rfl) (by kernel_rfl) (HLN.out _ B4.out) ?_
 simp only [List.take, List.drop]
 repeat (first | go_big_quiet_skip | (go_big_quiet_want; go_big_quiet_op; go_big_quiet_on))
 refine wpQuiet_nil ?_
 refine headI_loud 18 (by kernel_rfl) (by kernel_rfl) (HLN.out _ B4.out) ?_
 simp only [List.take, List.drop]
 go_wp2_with (first
  | ((with_reducible refine at_op ⟨none, .store 2 (.tmp 41) (.tmp 30), _, _, _, _⟩ ?_); refine wpList_store_one rfl 2 (.tmp 41) (.tmp 30) rfl (w.heap.size + 1) 2 rfl (.int .i64 (X.en : Int)) rfl rfl rfl 41 _ S4.out (by simp) (by kernel_rfl) ?_; intro w5 hT5 hg5 hz5; clear hz5; have S5 : Hid (Blk w5 (w.heap.size + 1) 41 #[.int .i64 (X.i : Int), .int .i64 ((X.en + X.wr.length : Nat) : Int), .int .i64 (X.en : Int), .int .i64 0, .int .i64 0, .int .i64 0, .int .i64 0, .int .i64 0, .int .i64 0, .int .i64 0]) := hid hT5; have B5 : Hid (Below w.heap.size w w5) := hid (B4.out.grown hg5 B4.out.size (fun k hk => by injection hk with hk; omega)); have R5 : Hid (Blk w5 w.heap.size 41 #[.int .i64 0, .int .i64 0, .int .i64 0, .int .i64 0, .int .i64 0, .int .i64 0, .int .i64 0, .int .i64 0, .int .i64 0, .int .i64 0]) := hid (R4.out.grown hg5 (by intro e; injection e with e; omega)); clear hT5 hg5 S4 R4)
  | fail)
 refine ⟨rfl, ?_⟩
 refine headI_batch 19 1 (by kernel_rfl) (by kernel_rfl) (HLN.out _ B5.out) ?_
 simp only [List.take, List.drop]
 repeat (first | go_big_quiet_skip | (go_big_quiet_want; go_big_quiet_op; go_big_quiet_on))
 refine wpQuiet_nil ?_
 refine headI_loud 20 (by kernel_rfl) (by kernel_rfl) (HLN.out _ B5.out) ?_
 simp only [List.take, List.drop]
 go_wp2_with (first
  | ((with_reducible refine at_op ⟨none, .store 2 (.tmp 42) (.tmp 35), _, _, _, _⟩ ?_); refine wpList_store_one rfl 2 (.tmp 42) (.tmp 35) rfl (w.heap.size + 1) 3 rfl (.int .i64 (X.man.mark : Int)) rfl rfl rfl 41 _ S5.out (by simp) (by kernel_rfl) ?_; intro w6 hT6 hg6 hz6; clear hz6; have S6 : Hid (Blk w6 (w.heap.size + 1) 41 #[.int .i64 (X.i : Int), .int .i64 ((X.en + X.wr.length : Nat) : Int), .int .i64 (X.en : Int), .int .i64 (X.man.mark : Int), .int .i64 0, .int .i64 0, .int .i64 0, .int .i64 0, .int .i64 0, .int .i64 0]) := hid hT6; have B6 : Hid (Below w.heap.size w w6) := hid (B5.out.grown hg6 B5.out.size (fun k hk => by injection hk with hk; omega)); have R6 : Hid (Blk w6 w.heap.size 41 #[.int .i64 0, .int .i64 0, .int .i64 0, .int .i64 0, .int .i64 0, .int .i64 0, .int .i64 0, .int .i64 0, .int .i64 0, .int .i64 0]) := hid (R5.out.grown hg6 (by intro e; injection e with e; omega)); clear hT6 hg6 S5 R5)
  | fail)
 refine ⟨rfl, ?_⟩
 refine headI_batch 21 1 (by kernel_rfl) (by kernel_rfl) (HLN.out _ B6.out) ?_
 simp only [List.take, List.drop]
 repeat (first | go_big_quiet_skip | (go_big_quiet_want; go_big_quiet_op; go_big_quiet_on))
 refine wpQuiet_nil ?_
 refine headI_end (by kernel_rfl) (HLN.out _ B6.out) ?_
 simp only [List.take, List.drop]
 go_wp2_with (first
  | ((with_reducible refine at_op ⟨none, .store 2 (.tmp 43) (.tmp 39), _, _, _, _⟩ ?_); refine wpList_store_one rfl 2 (.tmp 43) (.tmp 39) rfl (w.heap.size + 1) 4 rfl (.int .i64 (X.clock : Int)) rfl rfl rfl 41 _ S6.out (by simp) (by kernel_rfl) ?_; intro w7 hT7 hg7 hz7; clear hz7; have S7 : Hid (Blk w7 (w.heap.size + 1) 41 #[.int .i64 (X.i : Int), .int .i64 ((X.en + X.wr.length : Nat) : Int), .int .i64 (X.en : Int), .int .i64 (X.man.mark : Int), .int .i64 (X.clock : Int), .int .i64 0, .int .i64 0, .int .i64 0, .int .i64 0, .int .i64 0]) := hid hT7; have B7 : Hid (Below w.heap.size w w7) := hid (B6.out.grown hg7 B6.out.size (fun k hk => by injection hk with hk; omega)); have R7 : Hid (Blk w7 w.heap.size 41 #[.int .i64 0, .int .i64 0, .int .i64 0, .int .i64 0, .int .i64 0, .int .i64 0, .int .i64 0, .int .i64 0, .int .i64 0, .int .i64 0]) := hid (R6.out.grown hg7 (by intro e; injection e with e; omega)); clear hT7 hg7 S6 R6)
  | fail)
 simp only [Act.put]
 refine wp_region_head 14 (PhT t p.c.cells) (by kernel_rfl) (by kernel_rfl) (fun w8 hh8 hb8 => ?_)
 have B8 : Hid (Below w.heap.size w w8) := hid (B7.out.trans (hb8.mono B7.out.size))
 have S8 := hid (S7.out.below hb8 S7.out.lt)
 have R8 := hid (R7.out.below hb8 R7.out.lt)
 clear hh8 hb8 S7 R7
 refine headI_batch 0 11 (by kernel_rfl) (by kernel_rfl) (HLN.out _ B8.out) ?_
 simp only [List.take, List.drop]
 repeat (first | go_big_quiet_skip | (go_big_quiet_want; go_big_quiet_op; go_big_quiet_on))
 refine wpQuiet_nil ?_
 refine headI_batch 11 1 (by kernel_rfl) (by kernel_rfl) (HLN.out _ B8.out) ?_
 simp only [List.take, List.drop]
 repeat (first | go_big_quiet_skip | (go_big_quiet_want; go_big_quiet_op; go_big_quiet_on))
 refine wpQuiet_nil ?_
 refine headI_loud 12 (by kernel_rfl) (by kernel_rfl) (HLN.out _ B8.out) ?_
 simp only [List.take, List.drop]
 go_wp2_with (first
  | ((with_reducible refine at_op ⟨none, .store 3 (.tmp 55) (.tmp 49), _, _, _, _⟩ ?_); refine wpList_store_one rfl 3 (.tmp 55) (.tmp 49) rfl (w.heap.size + 1) 5 rfl (.int .i64 (X.man.segs.length : Int)) rfl rfl rfl 41 _ S8.out (by simp) (by kernel_rfl) ?_; intro w9 hT9 hg9 hz9; clear hz9; have S9 : Hid (Blk w9 (w.heap.size + 1) 41 #[.int .i64 (X.i : Int), .int .i64 ((X.en + X.wr.length : Nat) : Int), .int .i64 (X.en : Int), .int .i64 (X.man.mark : Int), .int .i64 (X.clock : Int), .int .i64 (X.man.segs.length : Int), .int .i64 0, .int .i64 0, .int .i64 0, .int .i64 0]) := hid hT9; have B9 : Hid (Below w.heap.size w w9) := hid (B8.out.grown hg9 B8.out.size (fun k hk => by injection hk with hk; omega)); have R9 : Hid (Blk w9 w.heap.size 41 #[.int .i64 0, .int .i64 0, .int .i64 0, .int .i64 0, .int .i64 0, .int .i64 0, .int .i64 0, .int .i64 0, .int .i64 0, .int .i64 0]) := hid (R8.out.grown hg9 (by intro e; injection e with e; omega)); clear hT9 hg9 S8 R8)
  | fail)
 refine ⟨rfl, ?_⟩
 refine headI_batch 13 1 (by kernel_rfl) (by kernel_rfl) (HLN.out _ B9.out) ?_
 simp only [List.take, List.drop]
 repeat (first | go_big_quiet_skip | (go_big_quiet_want; go_big_quiet_op; go_big_quiet_on))
 refine wpQuiet_nil ?_
 refine headI_end (by kernel_rfl) (HLN.out _ B9.out) ?_
 simp only [List.take, List.drop]
 go_wp2_with (first
  | ((with_reducible refine at_op ⟨none, .store 3 (.tmp 56) (.tmp 54), _, _, _, _⟩ ?_); refine wpList_store_one rfl 3 (.tmp 56) (.tmp 54) rfl (w.heap.size + 1) 6 rfl (.int .i64 (X.wr.length : Int)) rfl rfl rfl 41 _ S9.out (by simp) (by kernel_rfl) ?_; intro w10 hT10 hg10 hz10; clear hz10; have S10 : Hid (Blk w10 (w.heap.size + 1) 41 #[.int .i64 (X.i : Int), .int .i64 ((X.en + X.wr.length : Nat) : Int), .int .i64 (X.en : Int), .int .i64 (X.man.mark : Int), .int .i64 (X.clock : Int), .int .i64 (X.man.segs.length : Int), .int .i64 (X.wr.length : Int), .int .i64 0, .int .i64 0, .int .i64 0]) := hid hT10; have B10 : Hid (Below w.heap.size w w10) := hid (B9.out.grown hg10 B9.out.size (fun k hk => by injection hk with hk; omega)); have R10 : Hid (Blk w10 w.heap.size 41 #[.int .i64 0, .int .i64 0, .int .i64 0, .int .i64 0, .int .i64 0, .int .i64 0, .int .i64 0, .int .i64 0, .int .i64 0, .int .i64 0]) := hid (R9.out.grown hg10 (by intro e; injection e with e; omega)); clear hT10 hg10 S9 R9; have c12 : w10.cell? ⟨t, 12, none⟩ = some (.pointer (some ⟨p.c.dir, 0, none⟩)) := KT.out w10 B10.out 12 _ rfl)
  | fail)
 clear k16 k7 k17 k9 k15 hne0
 have HALL := (callsIn_wide (n := 5)).1 (all_in 5 (some ⟨p.c.dir, 0, none⟩) ⟨#[]⟩ ⟨#[]⟩ w10)
 refine HALL.mono ?_
 rintro e w11 ⟨rfl, hw11⟩
 clear HALL c12
 go_wp2_with fail
 obtain ⟨w12, hw12⟩ : ∃ y, ((w10.alloc (.cells #[.pointer (some ⟨p.c.dir, 0, none⟩)] 104)).alloc (.cells #[.string ⟨#[]⟩] 9)).alloc (.cells #[.string ⟨#[]⟩] 9) = y := ⟨_, rfl⟩
 have hb12 : Below w10.heap.size w10 w12 := by rw [<- hw12]; exact (((Below.refl _ _).alloc (Nat.le_refl _) _).alloc (by simp) _).alloc (by simp; omega) _
 have B12 : Hid (Below w.heap.size w w12) := hid (B10.out.trans (hb12.mono B10.out.size))
 have S12 := hid (S10.out.below hb12 S10.out.lt)
 have R12 := hid (R10.out.below hb12 R10.out.lt)
 have Z12 : Hid (w12.heap.size = w10.heap.size + 3) := by rw [<- hw12]; exact hid (by simp)
 have D12 : Hid (Blk w12 w10.heap.size 104 #[.pointer (some ⟨p.c.dir, 0, none⟩)]) := by rw [<- hw12]; exact hid (((Blk.new w10 _ _).alloc _).alloc _)
 have F12 : Hid (Blk w12 (w10.heap.size + 1) 9 #[.string ⟨#[]⟩]) := by
  rw [<- hw12]
  have := (Blk.new (w10.alloc (.cells #[.pointer (some ⟨p.c.dir, 0, none⟩)] 104)) 9 #[.string ⟨#[]⟩]).alloc (.cells #[.string ⟨#[]⟩] 9)
  rw [World.size_alloc] at this
  exact hid this
 have T12 : Hid (Blk w12 (w10.heap.size + 1 + 1) 9 #[.string ⟨#[]⟩]) := by
  rw [<- hw12]
  have := Blk.new ((w10.alloc (.cells #[.pointer (some ⟨p.c.dir, 0, none⟩)] 104)).alloc (.cells #[.string ⟨#[]⟩] 9)) 9 #[.string ⟨#[]⟩]
  rw [World.size_alloc, World.size_alloc] at this
  exact hid this
 have L10 : Hid (w.heap.size + 1 < w10.heap.size) := hid S10.out.lt
 have DR12 : Hid (DirAt w12 (· ≠ w.heap.size + 1) p.c.dir X.T) := by
  obtain ⟨⟨pd, hbd, htd⟩, _⟩ := HTV.out.dir
  exact hid ⟨pd, hbd.below B12.out hbd.lt, htd.keep (fun i hi _ => ⟨by omega, B12.out.block i hi⟩)⟩
 rw [hw12]
 clear hw12 hb12 hw11 S10 R10
 refine wpIn_wide.1 (wpIn_rangeFunc_ownH (F := Fence.wide) (n := 5) (gf := 102) (lb := #[.pointer (some ⟨w10.heap.size + 1, 0, none⟩), .pointer (some ⟨w10.heap.size + 1 + 1, 0, none⟩), .pointer (some ⟨w10.heap.size, 0, none⟩)]) rfl (by decide) rfl trivial (fun args W => Tryz.call102 args W)
  (all_stops (5 - 1) (w.heap.size + 1) p.c.dir (w10.heap.size + 1) (w10.heap.size + 1 + 1) w10.heap.size X.T w12 (by have h1 := L10.out; have h2 := Z12.out; omega) (by have h1 := L10.out; omega) (by have h1 := L10.out; omega) F12.out T12.out D12.out DR12.out HH.out.short) (fun h k => h.trans k) (fun W l o o' _ hl h1 _ => kc_put _ W l o o' hl h1) (Below.refl _ _) (fun x => rfl)
  (fun _ W => StI w X W) (fun _ _ _ => False) (stI_own w X _ (by have h1 := L10.out; have h2 := Z12.out; omega)) (fun c s W W' row hs _ _ => hs) ⟨0, 0, 0, S12.out, R12.out, B12.out⟩
  (fun x a' W => ∃ tb, a' = { tmps := #[.pointer (some ⟨t, 0, none⟩), undef, .pointer (some ⟨w.heap.size, 0, none⟩), .pointer (some ⟨w.heap.size + 1, 0, none⟩), undef, .pointer (some ⟨tb, 0, none⟩), undef, undef, undef, undef, undef, .pointer (some ⟨t, 0, none⟩), .bool false, undef, .pointer (some ⟨t, 0, none⟩), .pointer (some ⟨t, 0, none⟩), .pointer (some ⟨t, 0, none⟩), .pointer (some ⟨t, 1, none⟩), .int .i64 (X.i : Int), .agg #[.int .i64 (X.i : Int), .int .i64 0, .int .i64 0, .int .i64 0, .int .i64 0, .int .i64 0, .int .i64 0, .int .i64 0, .int .i64 0, .int .i64 0], .pointer (some ⟨t, 0, none⟩), .pointer (some ⟨t, 0, none⟩), .pointer (some ⟨t, 21, none⟩), .bool false, undef, .pointer (some ⟨t, 0, none⟩), .int .i64 ((X.en : Int) + (X.wr.length : Int)), .pointer (some ⟨t, 0, none⟩), .pointer (some ⟨t, 0, none⟩), .pointer (some ⟨t, 16, none⟩), .int .i64 (X.en : Int), .pointer (some ⟨t, 0, none⟩), .pointer (some ⟨t, 0, none⟩), .pointer (some ⟨t, 4, none⟩), .pointer (some ⟨t, 7, none⟩), .int .i64 (X.man.mark : Int), .pointer (some ⟨t, 0, none⟩), .pointer (some ⟨t, 0, none⟩), .pointer (some ⟨t, 17, none⟩), .int .i64 (X.clock : Int), .pointer (some ⟨w.heap.size + 1, 1, none⟩), .pointer (some ⟨w.heap.size + 1, 2, none⟩), .pointer (some ⟨w.heap.size + 1, 3, none⟩), .pointer (some ⟨w.heap.size + 1, 4, none⟩), .pointer (some ⟨t, 0, none⟩), .pointer (some ⟨t, 0, none⟩), .pointer (some ⟨t, 4, none⟩), .pointer (some ⟨t, 9, none⟩), .slice p.c.sA X.man.segs.length p.c.sc, .int .i64 (X.man.segs.length : Int), .pointer (some ⟨t, 0, none⟩), .pointer (some ⟨t, 0, none⟩), .pointer (some ⟨t, 15, none⟩), .slice p.c.wA X.wr.length p.c.wc, .int .i64 (X.wr.length : Int), .pointer (some ⟨w.heap.size + 1, 5, none⟩), .pointer (some ⟨w.heap.size + 1, 6, none⟩), .pointer (some ⟨t, 0, none⟩), .pointer (some ⟨t, 0, none⟩), .pointer (some ⟨t, 12, none⟩), .pointer (some ⟨p.c.dir, 0, none⟩), .func (.func 102) #[] #[.pointer (some ⟨w10.heap.size + 1, 0, none⟩), .pointer (some ⟨w10.heap.size + 1 + 1, 0, none⟩), .pointer (some ⟨w10.heap.size, 0, none⟩)], .string x.1, .agg x.2.cells, undef, undef, undef, undef, undef, undef, undef, undef, undef, undef, undef, undef, undef, undef, undef, undef, undef, undef, undef, undef, undef, undef, undef, undef, undef, undef, undef, undef, undef, undef, undef, undef, undef, undef, undef, undef, undef, undef, undef, undef, undef, undef, undef, undef, undef, undef, undef, undef, undef, undef, undef, undef, undef, undef, undef, undef, undef, undef, undef, undef, undef, undef, undef, undef, undef, undef, undef], defers := [] } /\ Blk W tb 117 x.2.cells)
  (fun x a' s W W' row hs hg hr => by
   obtain ⟨tb, h1, h2⟩ := hs
   exact ⟨tb, h1, h2.grown hg (fun e => by
    obtain ⟨_, o, ho, hc⟩ := hr tb e.symm
    rw [show W.heap[tb]? = _ from h2] at ho
    cases ho
    cases hc)⟩) ?_ ?_ ?_ ?_)
 ·rintro l pre ⟨k, s1, s2, s3, s4, s5, s6⟩ W K hI hK
  have HK := hid hK
  have HI := hid hI
  clear hI hK
  simp only [encK, KE.cells, List.zip_toArray, List.zip_cons_cons, List.zip_nil_right, List.foldl_toArray', List.size_toArray, List.length_cons, List.length_nil, List.foldl_cons, List.foldl_nil, List.setIfInBounds_toArray, List.set_cons_succ, List.set_cons_zero]
  gi_wp2
  refine HK.out _ _ ((KeepsOthers.alloc W _).from _) (Kc.below ((Below.refl _ _).alloc (Nat.le_refl _) _)) ?_ ⟨W.heap.size, rfl, Blk.new W _ _⟩
  obtain ⟨a, b, c, hS, hR, hB⟩ := HI.out
  exact ⟨a, b, c, hS.alloc _, hR.alloc _, hB.alloc hB.size _⟩
 ·rintro l pre ⟨k, s1, s2, s3, s4, s5, s6⟩ a' W hl _ ⟨a, b, c, hS, hR, hB⟩ ⟨tb, rfl, hbt⟩ _
  have c5 : W.cell? ⟨tb, 5, none⟩ = some (.bool s6) := (hbt.cell 5).trans rfl
  have c7 : W.cell? ⟨w.heap.size + 1, 7, none⟩ = some (.int .i64 a) := (hS.cell 7).trans rfl
  have f7 : W.frozen? ⟨w.heap.size + 1, 7, none⟩ = false := hS.frozen 7
  have HS := hid hS
  have HR := hid hR
  have HB := hid hB
  clear hS hR hB hbt
  cases s6
  ·gi_wp2
   exact ⟨(KeepsOthers.setCell _ _ _).from _, kc_set _ _ _ _, _, b, c, HS.out.set_ 7 _, HR.out.far (by simp) _, HB.out.setCell (by simp) _⟩
  ·gi_wp2
   exact ⟨KeepsFrom.refl _ _, Kc.refl _ _, a, b, c, HS.out, HR.out, HB.out⟩
 ·rintro D xs W hD _ ⟨a, b, c, hS, hR, hB⟩ hK
  have HK := hid hK
  have HS := hid hS
  have HR := hid hR
  have HB := hid hB
  have HD := hid hD
  clear hK hS hR hB hD
  obtain ⟨ps, hp1, hp2⟩ := rowsP_of X.rows HTV.out.rows
  have hbd : ∀ x ∈ ps, x.num <= 1073741824 /\ x.pls.length <= 65536 /\ ∀ y ∈ x.pls, y.r.key.size <= 64 := fun x hx => by
   have : (x.num, x.pls) ∈ X.rows.map (fun y => (y.1, placed 21 y.2)) := by rw [<- hp1]; exact List.mem_map.2 ⟨x, hx, rfl⟩
   obtain ⟨y, hy, e⟩ := List.mem_map.1 this
   injection e with e1 e2
   have h9 := HH.out.rows.num y hy
   have h8 := HH.out.keys y hy
   refine ⟨by rw [<- e1]; exact h9.1, by rw [<- e2, placed_len]; exact h9.2, fun z hz => h8 z.r ?_⟩
   rw [<- placed_r 21 y.2, e2]
   exact List.mem_map.2 ⟨z, hz, rfl⟩
  have hps : ps.length <= 64 := by
   have h9 := congrArg List.length hp1
   simp only [List.length_map] at h9
   have := HH.out.rows.len
   omega
  have HP1 := hid hp1
  have HP2 := hid hp2
  have HBD := hid hbd
  have HPS := hid hps
  have HE := hid (fun W' (hb : Below w.heap.size w W') => eachR_of HTV.out HH.out.rows hb HP1.out HP2.out)
  have c9 := (HE.out W HB.out).c9
  have HL : Hid (StL w X D W) := hid ⟨⟨a, b, c, HS.out, HR.out, HB.out⟩, HK.out⟩
  clear hp1 hp2 hbd hps HS HR HB HK
  go_wp2_with fail
  clear c9
  go_loopw [7, 8, 77] (fun _ _ i wr => ∃ k : Nat, k <= ps.length /\ i = .int .i64 (k : Int) /\ Hid (StL w X D wr)) (fun _ _ i _ => ps.length - (intOf i).toNat)
  case atStart => exact ⟨0, Nat.zero_le _, rfl, HL⟩
  case round =>
   obtain ⟨k, hk, rfl, HJ⟩ := hrel
   by_cases hlt : k < ps.length
   ·obtain ⟨x, hx⟩ : ∃ x, ps[k]? = some x := ⟨_, List.getElem?_eq_getElem hlt⟩
    have HX := hid hx
    have hxm : x ∈ ps := List.mem_of_getElem? hx
    have HXM := hid hxm
    obtain ⟨b0, off, hsA, hb0, hcell⟩ := (HE.out wr HJ.out.below).segs (by simpa using (by omega : 0 < ps.length))
    have ck : wr.cell? ⟨b0, off + k, none⟩ = some (.int .i64 (x.num : Int)) := hcell k x.num (by simp [hx])
    have i25 : IntKind.i64.wrap ((k : Int) + 1) = (k : Int) + 1 := by have := HPS.out; rw [IntKind.wrap_i64]; omega
    have c11 : wr.cell? ⟨t, 11, none⟩ = some (.pointer (some ⟨p.g, 0, none⟩)) := KT.out wr HJ.out.below 11 _ (by rw [<- HTV.out.eseg]; rfl)
    rw [hsA]
    clear hsA hcell hx hxm hb0
    go_wp2_with fail
    clear ck c11
    refine (info_any wr G τ p.g d X.seg (HTV.out.seg.below HJ.out.below)).mono ?_
    rintro e w2 ⟨rfl, hb2⟩
    have HJ2 := hid (HJ.out.keep hb2)
    have c11 : w2.cell? ⟨t, 11, none⟩ = some (.pointer (some ⟨p.g, 0, none⟩)) := KT.out w2 HJ2.out.below 11 _ (by rw [<- HTV.out.eseg]; rfl)
    have hfd := fun a b c d e f s => field_size a b c d e f s
    clear hb2
    unfold TS.seg Inf.cells
    go_wp2_with fail
    clear hfd
    refine (info_any w2 G τ p.g d X.seg (HTV.out.seg.below HJ2.out.below)).mono ?_
    rintro e w3 ⟨rfl, hb3⟩
    have HJ3 := hid (HJ2.out.keep hb3)
    have hfd := fun a b c d e f s => field_seg a b c d e f s
    clear hb3 c11 HJ2
    unfold TS.seg Inf.cells
    by_cases hne : ((x.num : Int) != (X.cur : Int)) = true
    ·go_wp2_with fail
     clear hfd
     obtain ⟨nn, CD, hmap, hrow⟩ := (HE.out w3 HJ3.out.below).rows
     obtain ⟨o, ho, hat, hpl⟩ := hrow x HXM.out
     refine (bytes_any w3 t p.c (HTV.out.top.1.below HJ3.out.below HTV.out.top.1.lt) nn CD hmap (x.num : Int) (by omega) (by have := (HBD.out x HXM.out).1; omega) o hat x.A x.cp x.pls ho (HBD.out x HXM.out).2.1 hpl).mono ?_
     rintro e w4 ⟨⟨bv, rfl⟩, hb4⟩
     have HJ4 := hid (HJ3.out.keep hb4)
     clear hb4 hmap hrow ho hat hpl HJ3
     obtain ⟨⟨a1, b1, c1, hS, hR, hB⟩, hK⟩ := HJ4.out
     have z9 : w4.cell? ⟨w.heap.size + 1, 9, none⟩ = some (.int .i64 c1) := (hS.cell 9).trans rfl
     have f9 : w4.frozen? ⟨w.heap.size + 1, 9, none⟩ = false := hS.frozen 9
     have HN9 := hid (fun z => StL.set9 hS hR hB hK z)
     have c20 : ∀ z, (w4.setCell ⟨w.heap.size + 1, 9, none⟩ (.int .i64 z)).cell? ⟨t, 20, none⟩ = some (.map (some p.c.cached)) := fun z => (HE.out _ (HN9.out z).below).c20
     have hlk : ∀ z, (Instr.lookup 108 (.map (some p.c.cached)) (.int .i64 (x.num : Int)) false).run Tryz.prog (w4.setCell ⟨w.heap.size + 1, 9, none⟩ (.int .i64 z)) = .ok (.slice x.A x.pls.length x.cp) (w4.setCell ⟨w.heap.size + 1, 9, none⟩ (.int .i64 z)) := fun z => by
      obtain ⟨nn, CD, hmap, hrow⟩ := (HE.out _ (HN9.out z).below).rows
      obtain ⟨o, ho, hat, _⟩ := hrow x HXM.out
      have := look_row hmap (s := (x.num : Int)) (by omega) (by have := (HBD.out x HXM.out).1; omega) hat
      rwa [ho] at this
     clear hS hR hB hK HJ4
     go_wp2_with fail
     clear z9 f9 c20 hlk
     go_loopw [10, 111] (fun _ i wr2 => ∃ m : Nat, m <= x.pls.length /\ i = .int .i64 (m : Int) /\ Hid (StL w X D wr2)) (fun _ i _ => x.pls.length - (intOf i).toNat)
     case atStart => exact ⟨0, Nat.zero_le _, rfl, hid (HN9.out _)⟩
     case round =>
      obtain ⟨m, hm, rfl, HJ2⟩ := hrel
      clear HN9
      by_cases hlt2 : m < x.pls.length
      ·obtain ⟨y, hy⟩ : ∃ y, x.pls[m]? = some y := ⟨_, List.getElem?_eq_getElem hlt2⟩
       obtain ⟨nn2, CD2, _, hrow2⟩ := (HE.out wr HJ2.out.below).rows
       obtain ⟨o2, _, _, hpl2⟩ := hrow2 x HXM.out
       obtain ⟨b2, hxA, hb2, hc2⟩ := hpl2 (by omega)
       have HKS : Hid (y.r.key.size <= 64) := hid ((HBD.out x HXM.out).2.2 y (List.mem_of_getElem? hy))
       have e0 : wr.cell? ⟨b2, m * 9, none⟩ = some (.int .i64 y.r.kind) := hc2 m y 0 _ hy rfl
       have e1 := hc2 m y 1 _ hy rfl
       have e2 := hc2 m y 2 _ hy rfl
       have e3 := hc2 m y 3 _ hy rfl
       have e4 := hc2 m y 4 _ hy rfl
       have e5 := hc2 m y 5 _ hy rfl
       have e6 := hc2 m y 6 _ hy rfl
       have e7 := hc2 m y 7 _ hy rfl
       have e8 := hc2 m y 8 _ hy rfl
       obtain ⟨⟨x0, x1, x2, x3, x4, x5, x6⟩, x7, x8⟩ := y
       dsimp only at e0 e1 e2 e3 e4 e5 e6 e7 e8
       have i24 : IntKind.i64.wrap ((m : Int) + 1) = (m : Int) + 1 := by have := (HBD.out x HXM.out).2; rw [IntKind.wrap_i64]; omega
       rw [hxA]
       clear hrow2 hpl2 hb2 hc2 hy hxA
       go_wp2_with fail
       obtain ⟨wz, hwz⟩ : ∃ y, wr.alloc (.cells #[.int .i64 x0, .int .i64 x1, .int .i64 x2, .int .i64 x3, .int .i64 x4, .string x5, .string x6, .int .i64 x7, .int .i64 x8] 86) = y := ⟨_, rfl⟩
       have HJZ : Hid (StL w X D wz) := by rw [<- hwz]; exact hid (HJ2.out.keep ((Below.refl _ _).alloc (Nat.le_refl _) _))
       have HBZ : Hid (Blk wz wr.heap.size 86 #[.int .i64 x0, .int .i64 x1, .int .i64 x2, .int .i64 x3, .int .i64 x4, .string x5, .string x6, .int .i64 x7, .int .i64 x8]) := by rw [<- hwz]; exact hid (Blk.new wr _ _)
       rw [hwz]
       clear hwz e0 e1 e2 e3 e4 e5 e6 e7 e8
       have k8 := fun d' os => cell_regrown (show wz.cell? ⟨t, 17, none⟩ = some (.int .i64 p.c.clock) from KT.out wz HJZ.out.below 17 _ rfl) d' os
       have kE := regrown_cells HBZ.out 0 [.int .i64 x0, .int .i64 x1, .int .i64 x2, .int .i64 x3, .int .i64 x4, .string x5, .string x6] (by intro j v hj; rw [Nat.zero_add]; rcases j with _ | _ | _ | _ | _ | _ | _ | j <;> first | exact hj | simp at hj)
       refine wp_quiet_tail 7 (by kernel_rfl) (by kernel_rfl) (by kernel_rfl) ?_
       simp only [List.take, List.drop]
       repeat (first | go_big_quiet_skip | (with_reducible refine wpQuiet_load_list (o := ⟨some 121, .load 47 (.tmp 120), _, _, _, _⟩) rfl 47 (.tmp 120) rfl ⟨wr.heap.size, 0, none⟩ rfl _ kE _ Tryz.underlying47 rfl (by kernel_rfl) ?_; simp only [Act.put, List.setIfInBounds_toArray, List.set_cons_succ, List.set_cons_zero]) | (go_big_quiet_want; go_big_quiet_op; go_big_quiet_on))
       refine wpQuiet_nil ?_
       intro wq hw'
       obtain ⟨⟨dq, osq⟩, hw''⟩ := hw'
       have HJQ : Hid (StL w X D wq) := by rw [hw'']; exact hid (HJZ.out.keep (below_regrown wz dq osq))
       clear hw'' k8 kE HJZ HBZ
       go_wp2_with fail
       refine (needed_any wq _ t p.c X.T (HTV.out.top.1.below HJQ.out.below HTV.out.top.1.lt) HTV.out.egone (HTV.out.below HJQ.out.below).dir.1 HH.out.short _ ⟨x0, x1, x2, x3, x4, x5, x6⟩ HKS.out).mono ?_
       rintro e w6 ⟨⟨bn, rfl⟩, hb6⟩
       have HJ6 := hid (HJQ.out.keep hb6)
       clear hb6 HJQ HJ2 HKS
       cases bn
       ·obtain ⟨⟨a2, b3, c2, hS, hR, hB⟩, hK⟩ := HJ6.out
        have z8 : w6.cell? ⟨w.heap.size + 1, 8, none⟩ = some (.int .i64 b3) := (hS.cell 8).trans rfl
        have f8 : w6.frozen? ⟨w.heap.size + 1, 8, none⟩ = false := hS.frozen 8
        have HN8 := hid (fun z => StL.set8 hS hR hB hK z)
        clear hS hR hB hK HJ6
        go_wp2_with fail
        go_roundw
        case rel => exact ⟨m + 1, by omega, by go_num, hid (HN8.out _)⟩
        case measure => simp [intOf]; omega
       ·go_wp2_with fail
        go_roundw
        case rel => exact ⟨m + 1, by omega, by go_num, HJ6⟩
        case measure => simp [intOf]; omega
      ·obtain rfl : m = x.pls.length := by omega
       go_wp2_with fail
       go_roundw
       case rel => exact ⟨k + 1, by omega, by go_num, HJ2⟩
       case measure => simp [intOf]; omega
    ·have hne : ((x.num : Int) != (X.cur : Int)) = false := by simpa using hne
     obtain ⟨⟨a1, b1, c1, hS, hR, hB⟩, hK⟩ := HJ3.out
     have z9 : w3.cell? ⟨w.heap.size + 1, 9, none⟩ = some (.int .i64 c1) := (hS.cell 9).trans rfl
     have f9 : w3.frozen? ⟨w.heap.size + 1, 9, none⟩ = false := hS.frozen 9
     have HN9 := hid (fun z => StL.set9 hS hR hB hK z)
     have c20 : ∀ z, (w3.setCell ⟨w.heap.size + 1, 9, none⟩ (.int .i64 z)).cell? ⟨t, 20, none⟩ = some (.map (some p.c.cached)) := fun z => (HE.out _ (HN9.out z).below).c20
     have hlk : ∀ z, (Instr.lookup 108 (.map (some p.c.cached)) (.int .i64 (x.num : Int)) false).run Tryz.prog (w3.setCell ⟨w.heap.size + 1, 9, none⟩ (.int .i64 z)) = .ok (.slice x.A x.pls.length x.cp) (w3.setCell ⟨w.heap.size + 1, 9, none⟩ (.int .i64 z)) := fun z => by
      obtain ⟨nn, CD, hmap, hrow⟩ := (HE.out _ (HN9.out z).below).rows
      obtain ⟨o, ho, hat, _⟩ := hrow x HXM.out
      have := look_row hmap (s := (x.num : Int)) (by omega) (by have := (HBD.out x HXM.out).1; omega) hat
      rwa [ho] at this
     clear hS hR hB hK HJ3
     go_wp2_with fail
     clear z9 f9 c20 hlk
     go_loopw [10, 111] (fun _ i wr2 => ∃ m : Nat, m <= x.pls.length /\ i = .int .i64 (m : Int) /\ Hid (StL w X D wr2)) (fun _ i _ => x.pls.length - (intOf i).toNat)
     case atStart => exact ⟨0, Nat.zero_le _, rfl, hid (HN9.out _)⟩
     case round =>
      obtain ⟨m, hm, rfl, HJ2⟩ := hrel
      clear HN9
      by_cases hlt2 : m < x.pls.length
      ·obtain ⟨y, hy⟩ : ∃ y, x.pls[m]? = some y := ⟨_, List.getElem?_eq_getElem hlt2⟩
       obtain ⟨nn2, CD2, _, hrow2⟩ := (HE.out wr HJ2.out.below).rows
       obtain ⟨o2, _, _, hpl2⟩ := hrow2 x HXM.out
       obtain ⟨b2, hxA, hb2, hc2⟩ := hpl2 (by omega)
       have HKS : Hid (y.r.key.size <= 64) := hid ((HBD.out x HXM.out).2.2 y (List.mem_of_getElem? hy))
       have e0 : wr.cell? ⟨b2, m * 9, none⟩ = some (.int .i64 y.r.kind) := hc2 m y 0 _ hy rfl
       have e1 := hc2 m y 1 _ hy rfl
       have e2 := hc2 m y 2 _ hy rfl
       have e3 := hc2 m y 3 _ hy rfl
       have e4 := hc2 m y 4 _ hy rfl
       have e5 := hc2 m y 5 _ hy rfl
       have e6 := hc2 m y 6 _ hy rfl
       have e7 := hc2 m y 7 _ hy rfl
       have e8 := hc2 m y 8 _ hy rfl
       obtain ⟨⟨x0, x1, x2, x3, x4, x5, x6⟩, x7, x8⟩ := y
       dsimp only at e0 e1 e2 e3 e4 e5 e6 e7 e8
       have i24 : IntKind.i64.wrap ((m : Int) + 1) = (m : Int) + 1 := by have := (HBD.out x HXM.out).2; rw [IntKind.wrap_i64]; omega
       rw [hxA]
       clear hrow2 hpl2 hb2 hc2 hy hxA
       go_wp2_with fail
       obtain ⟨wz, hwz⟩ : ∃ y, wr.alloc (.cells #[.int .i64 x0, .int .i64 x1, .int .i64 x2, .int .i64 x3, .int .i64 x4, .string x5, .string x6, .int .i64 x7, .int .i64 x8] 86) = y := ⟨_, rfl⟩
       have HJZ : Hid (StL w X D wz) := by rw [<- hwz]; exact hid (HJ2.out.keep ((Below.refl _ _).alloc (Nat.le_refl _) _))
       have HBZ : Hid (Blk wz wr.heap.size 86 #[.int .i64 x0, .int .i64 x1, .int .i64 x2, .int .i64 x3, .int .i64 x4, .string x5, .string x6, .int .i64 x7, .int .i64 x8]) := by rw [<- hwz]; exact hid (Blk.new wr _ _)
       rw [hwz]
       clear hwz e0 e1 e2 e3 e4 e5 e6 e7 e8
       have k8 := fun d' os => cell_regrown (show wz.cell? ⟨t, 17, none⟩ = some (.int .i64 p.c.clock) from KT.out wz HJZ.out.below 17 _ rfl) d' os
       have kE := regrown_cells HBZ.out 0 [.int .i64 x0, .int .i64 x1, .int .i64 x2, .int .i64 x3, .int .i64 x4, .string x5, .string x6] (by intro j v hj; rw [Nat.zero_add]; rcases j with _ | _ | _ | _ | _ | _ | _ | j <;> first | exact hj | simp at hj)
       refine wp_quiet_tail 7 (by kernel_rfl) (by kernel_rfl) (by kernel_rfl) ?_
       simp only [List.take, List.drop]
       repeat (first | go_big_quiet_skip | (with_reducible refine wpQuiet_load_list (o := ⟨some 121, .load 47 (.tmp 120), _, _, _, _⟩) rfl 47 (.tmp 120) rfl ⟨wr.heap.size, 0, none⟩ rfl _ kE _ Tryz.underlying47 rfl (by kernel_rfl) ?_; simp only [Act.put, List.setIfInBounds_toArray, List.set_cons_succ, List.set_cons_zero]) | (go_big_quiet_want; go_big_quiet_op; go_big_quiet_on))
       refine wpQuiet_nil ?_
       intro wq hw'
       obtain ⟨⟨dq, osq⟩, hw''⟩ := hw'
       have HJQ : Hid (StL w X D wq) := by rw [hw'']; exact hid (HJZ.out.keep (below_regrown wz dq osq))
       clear hw'' k8 kE HJZ HBZ
       go_wp2_with fail
       refine (needed_any wq _ t p.c X.T (HTV.out.top.1.below HJQ.out.below HTV.out.top.1.lt) HTV.out.egone (HTV.out.below HJQ.out.below).dir.1 HH.out.short _ ⟨x0, x1, x2, x3, x4, x5, x6⟩ HKS.out).mono ?_
       rintro e w6 ⟨⟨bn, rfl⟩, hb6⟩
       have HJ6 := hid (HJQ.out.keep hb6)
       clear hb6 HJQ HJ2 HKS
       cases bn
       ·obtain ⟨⟨a2, b3, c2, hS, hR, hB⟩, hK⟩ := HJ6.out
        have z8 : w6.cell? ⟨w.heap.size + 1, 8, none⟩ = some (.int .i64 b3) := (hS.cell 8).trans rfl
        have f8 : w6.frozen? ⟨w.heap.size + 1, 8, none⟩ = false := hS.frozen 8
        have HN8 := hid (fun z => StL.set8 hS hR hB hK z)
        clear hS hR hB hK HJ6
        go_wp2_with fail
        go_roundw
        case rel => exact ⟨m + 1, by omega, by go_num, hid (HN8.out _)⟩
        case measure => simp [intOf]; omega
       ·go_wp2_with fail
        go_roundw
        case rel => exact ⟨m + 1, by omega, by go_num, HJ6⟩
        case measure => simp [intOf]; omega
      ·obtain rfl : m = x.pls.length := by omega
       go_wp2_with fail
       go_roundw
       case rel => exact ⟨k + 1, by omega, by go_num, HJ2⟩
       case measure => simp [intOf]; omega
   ·obtain rfl : k = ps.length := by omega
    obtain ⟨⟨a1, b1, c1, hS, hR, hB⟩, hK⟩ := HJ.out
    have HS := hid hS
    have HR := hid hR
    have HB1 := hid hB
    have HK := hid hK
    have z0 : wr.cell? ⟨w.heap.size + 1, 0, none⟩ = _ := (hS.cell 0).trans rfl
    have z1 : wr.cell? ⟨w.heap.size + 1, 1, none⟩ = _ := (hS.cell 1).trans rfl
    have z2 : wr.cell? ⟨w.heap.size + 1, 2, none⟩ = _ := (hS.cell 2).trans rfl
    have z3 : wr.cell? ⟨w.heap.size + 1, 3, none⟩ = _ := (hS.cell 3).trans rfl
    have z4 : wr.cell? ⟨w.heap.size + 1, 4, none⟩ = _ := (hS.cell 4).trans rfl
    have z5 : wr.cell? ⟨w.heap.size + 1, 5, none⟩ = _ := (hS.cell 5).trans rfl
    have z6 : wr.cell? ⟨w.heap.size + 1, 6, none⟩ = _ := (hS.cell 6).trans rfl
    have z7 : wr.cell? ⟨w.heap.size + 1, 7, none⟩ = _ := (hS.cell 7).trans rfl
    have z8 : wr.cell? ⟨w.heap.size + 1, 8, none⟩ = _ := (hS.cell 8).trans rfl
    have z9 : wr.cell? ⟨w.heap.size + 1, 9, none⟩ = _ := (hS.cell 9).trans rfl
    clear hS hR hB hK
    go_wp2_with (first
     | ((with_reducible refine at_op ⟨none, .store 41 (.tmp 2) (.tmp 130), _, _, _, _⟩ ?_); refine wpList_store_blk rfl 41 (.tmp 2) (.tmp 130) rfl w.heap.size 0 rfl [.int .i64 (X.i : Int), .int .i64 ((X.en + X.wr.length : Nat) : Int), .int .i64 (X.en : Int), .int .i64 (X.man.mark : Int), .int .i64 (X.clock : Int), .int .i64 (X.man.segs.length : Int), .int .i64 (X.wr.length : Int), .int .i64 a1, .int .i64 b1, .int .i64 c1] rfl (by simp [Value.oneCell']) 41 _ HR.out (by simp) (by kernel_rfl) ?_; intro w3 hT3 hg3 _; rw [put10] at hT3; have HT3 := hid hT3; have HG3 := hid hg3; clear hT3 hg3)
     | fail)
    have hK3 : w3.heap[D]? = some (.deferred (some [])) := (HG3.out.block D (Array.getElem?_eq_some_iff.1 HK.out).1 (by
     intro e
     injection e with e
     have h8 := HK.out
     rw [e, show wr.heap[w.heap.size]? = _ from HR.out] at h8
     cases h8)).trans HK.out
    have HB3 : Hid (Below w.heap.size w w3) := hid (HB1.out.grown HG3.out HB1.out.size (fun j hj => by injection hj with hj; omega))
    refine ⟨by simp, .inl ⟨_, _, rfl, run_takeDeferred hK3, ?_⟩⟩
    have hc : ∀ (j : Nat) (v : Value), (#[.int .i64 (X.i : Int), .int .i64 ((X.en + X.wr.length : Nat) : Int), .int .i64 (X.en : Int), .int .i64 (X.man.mark : Int), .int .i64 (X.clock : Int), .int .i64 (X.man.segs.length : Int), .int .i64 (X.wr.length : Int), .int .i64 a1, .int .i64 b1, .int .i64 c1] : Array Value)[j]? = some v -> (w3.putObj D (.deferred none)).cell? ⟨w.heap.size, j, none⟩ = some v := fun j v h => cell_kept ((HT3.out.cell j).trans h) (grownBy_putObj' _ D (.deferred none)) (fun r e => by cases e; exact ⟨_, hK3, rfl⟩)
    have hD : w.heap.size <= D := Nat.le_trans B12.out.size HD.out
    have r0 := hc 0 _ rfl
    have r1 := hc 1 _ rfl
    have r2 := hc 2 _ rfl
    have r3 := hc 3 _ rfl
    have r4 := hc 4 _ rfl
    have r5 := hc 5 _ rfl
    have r6 := hc 6 _ rfl
    have r7 := hc 7 _ rfl
    have r8 := hc 8 _ rfl
    have r9 := hc 9 _ rfl
    clear hc
    refine ⟨stV X a1 b1 c1, ?_, ⟨a1, b1, c1, rfl⟩, HB3.out.trans (belowK_b (w := w) (Nat.le_refl _) w3 D _ _ hD hK3 rfl rfl)⟩
    simp [results, Tryz.f10, go_sem, stV, r0, r1, r2, r3, r4, r5, r6, r7, r8, r9]
 ·rintro D c pre W _ _ hf _
  exact hf.elim
end Go.Proofs.YtendlmdmbkcdnaaGreatDoor.tp
namespace Go.Proofs.YtendlmdmbkcdnaaGreatDoor.tp
open Go.RowKit Go.Maps Go.WideMaps oc rc gh dk sg ma hi kd dd
set_option maxRecDepth 100000
theorem commit_none (w : World) (G : Gh) (τ t d : Nat) (X : TS) (q : Int) (fs : List Fil) (no L : Nat) (h : TopAt w G τ t d X q fs no L) (hw : X.wr = []) :
  Calls Tryz.prog 30 #[.pointer (some ⟨t, 0, none⟩)] w fun e w' => e = .returned (.int .i64 0) /\ w' = w := by
 obtain ⟨p, h⟩ := h
 have hn : p.c.wn = 0 := by rw [h.ewn, hw]; rfl
 have c21 : w.cell? ⟨t, 21, none⟩ = some (.bool false) := (h.top.cell 21).trans (by rw [<- h.egone]; rfl)
 have c15 : w.cell? ⟨t, 15, none⟩ = some (.slice p.c.wA 0 p.c.wc) := (h.top.cell 15).trans (by rw [<- hn]; rfl)
 clear h hn hw
 go_enter Tryz.func30, Tryz.ntmps30
 go_wp2_with fail
 go_ret
 exact ⟨rfl, rfl⟩
end Go.Proofs.YtendlmdmbkcdnaaGreatDoor.tp
namespace Go.Proofs.YtendlmdmbkcdnaaGreatDoor.tp
open Go.RowKit Go.Maps Go.WideMaps oc rc gh dk sg ma hi kd dd
open Go.Lib (hid)
set_option maxRecDepth 100000
def cmF (X : TS) (x : Fil) : Fil := ⟨x.name, x.blk, if X.wr = [] then x.st else fSync x.st⟩
theorem cmF_nil {X : TS} {x : Fil} (h : X.wr = []) : cmF X x = x := by simp [cmF, h]
theorem cmF_some {X : TS} {x : Fil} (h : X.wr ≠ []) : cmF X x = ⟨x.name, x.blk, fSync x.st⟩ := by simp [cmF, h]
theorem commitS_nil (X : TS) (h : X.wr = []) (hd : X.DC = X.DA) : commitS X = X := by
 obtain ⟨i, lim, ret, man, old, cur, base, rs, wr, DC, DA, T, clock, en⟩ := X
 dsimp only at h hd
 subst h hd
 simp [commitS, noteAll, placed, TS.wpos]
theorem commit_any (w : World) (G : Gh) (τ t d : Nat) (X : TS) (q : Int) (fs : List Fil) (no L : Nat) (h : TopAt w G τ t d X q fs no L) (x : Fil) (l : List Fil) (H : CmH X fs x l) (hd : X.wr = [] -> X.DC = X.DA) (hno : no <= 1099511627776) :
  Calls Tryz.prog 30 #[.pointer (some ⟨t, 0, none⟩)] w fun e w' => e = .returned (.int .i64 0) /\ ∃ G' no', TopAt w' G' τ t d (commitS X) q (cmF X x :: l) no' L /\ Fx (CT τ) G G' w w' /\ no <= no' /\ no' <= no + min 1 X.wr.length := by
 by_cases hw : X.wr = []
 ·refine (commit_none w G τ t d X q fs no L h hw).mono ?_
  rintro e w' ⟨rfl, rfl⟩
  obtain ⟨p, h⟩ := h
  refine ⟨rfl, G, no, ?_, Fx.refl _ _ _, Nat.le_refl _, by omega⟩
  rw [commitS_nil X hw (hd hw), cmF_nil hw]
  exact ⟨p, { h with dk := h.dk.perm H.perm }⟩
 ·refine (commit_some w G τ t d X q fs no L h x l H hw hno).mono ?_
  rintro e w' ⟨rfl, G', hT, hX⟩
  have hwl : 0 < X.wr.length := by
   rcases hx : X.wr with _ | ⟨y, z⟩
   ·exact absurd hx hw
   ·simp
  exact ⟨rfl, G', no + 1, by rw [cmF_some hw]; exact hT, hX, by omega, by omega⟩
theorem field_dead (a0 a1 a2 a3 a4 a5 a6 a7 a8 a9 : Int) (w : World) : (Instr.field 41 (.agg #[.int .i64 a0, .int .i64 a1, .int .i64 a2, .int .i64 a3, .int .i64 a4, .int .i64 a5, .int .i64 a6, .int .i64 a7, .int .i64 a8, .int .i64 a9]) 8).run Tryz.prog w = .ok (.int .i64 a8) w := by kernel_rfl
set_option maxHeartbeats 8000000 in
theorem roll_full (w : World) (G : Gh) (τ t d : Nat) (X : TS) (q : Int) (fs : List Fil) (no L : Nat) (h : TopAt w G τ t d X q fs no L) (x : Fil) (l : List Fil) (H : CmH X fs x l) (hd : X.wr = [] -> X.DC = X.DA) (hno : no <= 1099511627776)
  (hc : 0 < (X.rs ++ X.wr).length) (hm : 64 <= X.man.segs.length) (HS : StH (commitS X)) :
  Calls Tryz.prog 41 #[.pointer (some ⟨t, 0, none⟩)] w fun e w' => (e = .returned (.int .i64 102) \/ e = .returned (.int .i64 103)) /\ ∃ G' no', TopAt w' G' τ t d (commitS X) q (cmF X x :: l) no' L /\ Fx (CT τ) G G' w w' /\ no <= no' /\ no' <= no + min 1 X.wr.length := by
 obtain ⟨p, h⟩ := h
 have c21 : w.cell? ⟨t, 21, none⟩ = some (.bool false) := (h.top.cell 21).trans (by rw [<- h.egone]; rfl)
 have c11 : w.cell? ⟨t, 11, none⟩ = some (.pointer (some ⟨p.g, 0, none⟩)) := (h.top.cell 11).trans (by rw [<- h.eseg]; rfl)
 have HTV := hid h
 have HCC := hid (fun W (hb : Below w.heap.size w W) => commit_any W G τ t d X q fs no L ⟨p, h.below hb⟩ x l H hd hno)
 have HH := hid H
 have HC := hid hc
 have HM := hid hm
 have HN := hid hno
 clear h H hd hno hc hm
 go_enter Tryz.func41, Tryz.ntmps41
 go_wp2_with fail
 refine (info_any w G τ p.g d X.seg HTV.out.seg).mono ?_
 rintro e w1 ⟨rfl, hb1⟩
 have HB1 := hid hb1
 clear hb1 c21 c11
 have gz : (((X.rs ++ X.wr).length : Int) == 0) = false := by have := HC.out; simp only [beq_eq_false_iff_ne, ne_eq]; omega
 obtain ⟨cnt, hcnt⟩ : ∃ n : Nat, (X.rs ++ X.wr).length = n := ⟨_, rfl⟩
 unfold TS.seg Inf.cells
 rw [hcnt] at gz ⊢
 go_wp2_with fail
 obtain ⟨w2, hw2⟩ : ∃ y, w1.alloc (.cells #[.int .i64 (X.i : Int), .int .i64 (X.cur : Int), .int .i64 (X.base : Int), .int .i64 ((21 : Int) + ((bodyR (X.rs ++ X.wr)).length : Nat)), .int .i64 (cnt : Int), .int .i64 ((X.base : Int) - 1 + (cnt : Nat)), .bool false] 79) = y := ⟨_, rfl⟩
 have HB2 : Hid (Below w.heap.size w w2) := by rw [<- hw2]; exact hid (HB1.out.alloc HB1.out.size _)
 rw [hw2]
 clear hw2 gz hcnt
 refine (HCC.out w2 HB2.out).mono ?_
 rintro e w3 ⟨rfl, G3, no3, hT3, hX3, hn3, hn3'⟩
 have HX3 : Hid (Fx (CT τ) G G3 w w3) := hid ((Fx.below HB2.out).trans hX3)
 have HT3 := hid hT3
 have HF3 := hid (⟨hn3, hn3'⟩ : no <= no3 /\ no3 <= no + min 1 X.wr.length)
 have HSM := hid (show (commitS X).man = X.man from rfl)
 obtain ⟨p3, hp3⟩ := hT3
 have c9 : w3.cell? ⟨t, 9, none⟩ = some (.slice p3.c.sA X.man.segs.length p3.c.sc) := (hp3.top.cell 9).trans (by rw [<- HSM.out, <- hp3.eman]; rfl)
 have gm : decide ((64 : Int) <= (X.man.segs.length : Int)) = true := decide_eq_true (by have := HM.out; omega)
 have HST := hid (state_any w3 G3 τ t d (commitS X) q _ no3 L HT3.out HS)
 clear hX3 hn3 hn3' hp3 HCC
 go_wp2_with fail
 refine HST.out.mono ?_
 rintro e w4 ⟨⟨a, b, c, rfl⟩, hb4⟩
 have HB4 := hid hb4
 have hfd := fun a0 a1 a2 a3 a4 a5 a6 a7 a8 a9 => field_dead a0 a1 a2 a3 a4 a5 a6 a7 a8 a9
 unfold stV
 clear HST hb4 gm c9
 have HEND : Hid (∃ G' no', TopAt w4 G' τ t d (commitS X) q (cmF X x :: l) no' L /\ Fx (CT τ) G G' w w4 /\ no <= no' /\ no' <= no + min 1 X.wr.length) := by
  obtain ⟨p3, hp3⟩ := HT3.out
  exact hid ⟨G3, no3, ⟨p3, hp3.below HB4.out⟩, HX3.out.trans (Fx.below HB4.out), HF3.out.1, HF3.out.2⟩
 by_cases hb0 : b = 0
 ·subst hb0
  go_wp2_with fail
  go_ret
  exact ⟨Or.inr rfl, HEND.out⟩
 ·have gb : (b == 0) = false := by simpa using hb0
  go_wp2_with fail
  go_ret
  exact ⟨Or.inl rfl, HEND.out⟩
end Go.Proofs.YtendlmdmbkcdnaaGreatDoor.tp
namespace Go.Proofs.YtendlmdmbkcdnaaGreatDoor.tp
open Go.RowKit Go.Maps Go.WideMaps oc rc gh dk sg ma hi kd dd
theorem uv_pos : ∀ n v, 1 <= (uv n v).length
 | 0, v => by simp [uv]
 | n + 1, v => by
  unfold uv
  split <;> simp
theorem uv_le : ∀ n k v, v < 128 ^ (k + 1) -> k <= n -> (uv n v).length <= k + 1
 | 0, k, v, h, hk => by
  have : k = 0 := by omega
  subst this
  simp [uv]
 | n + 1, 0, v, h, hk => by
  unfold uv
  rw [if_neg (by omega)]
  simp
 | n + 1, k + 1, v, h, hk => by
  unfold uv
  split
  ·have := uv_le n k (v / 128) (by rw [Nat.pow_succ] at h; omega) (by omega)
   simp only [List.length_cons]
   omega
  ·simp
theorem encR_size {r : Rc} (h : checkN r = 0) : 14 <= (encR r).length /\ (encR r).length <= 1124 := by
 have hk0 := (key_of_good h).1
 obtain ⟨kind, off, time, pid, seq, hr, hg⟩ := good_of h
 have e1 : r.off.toNat = off := by rw [hr]; simp
 have e2 : r.time.toNat = time := by rw [hr]; simp
 have e3 : r.pid.toNat = pid := by rw [hr]; simp
 have e4 : r.seq.toNat = seq := by rw [hr]; simp
 have hv := hg.v
 have hk := hg.k
 have h1 := uv_le 9 5 off (by have := hg.o; omega) (by omega)
 have h2 := uv_le 9 7 time (by have := hg.t; omega) (by omega)
 have h3 := uv_le 9 4 pid (by have := hg.p; omega) (by omega)
 have h4 := uv_le 9 5 seq (by have := hg.q; omega) (by omega)
 have h5 := uv_le 9 0 r.key.size (by omega) (by omega)
 have k1 := uv_pos 9 off
 have k2 := uv_pos 9 time
 have k5 := uv_pos 9 r.key.size
 have hsl := short_len r.val.data.toList
 have hvl : r.val.data.toList.length = r.val.size := by simp
 have hkl : r.key.data.toList.length = r.key.size := by simp
 rw [encR, if_pos h, e1, e2, e3, e4]
 clear hr hg h e1 e2 e3 e4
 generalize r.kind.toNat = a0
 rw [recN, wrapL, bodyN]
 simp only [List.length_append, List.length_cons, List.length_nil, be4_len]
 split <;> simp only [List.length_append, List.length_nil] <;> omega
theorem bodyR_take {l : List Rc} (k : Nat) : (bodyR (l.take k)).length <= (bodyR l).length := by
 conv => rhs; rw [<- List.take_append_drop k l, bodyR_app]
 simp
theorem entH_ok {p : Nat} {l : List Rc} (hg : ∀ r ∈ l, checkN r = 0) (hp : p + (bodyR l).length <= 1073741824) {y : Pl} (hy : y ∈ placed p l) : (entH y).Ok := by
 obtain ⟨k, hk⟩ := List.getElem?_of_mem hy
 have hkl : k < l.length := by
  have := (List.getElem?_eq_some_iff.1 hk).1
  rwa [placed_len] at this
 obtain ⟨r, hr⟩ : ∃ r, l[k]? = some r := ⟨_, List.getElem?_eq_getElem hkl⟩
 have e := placed_get p l k r hr
 rw [e] at hk
 injection hk with hk
 subst hk
 have hc := hg r (List.mem_of_getElem? hr)
 have h1 := encR_size hc
 have h2 := key_of_good hc
 obtain ⟨kind, off, time, pid, seq, hre, hgd⟩ := good_of hc
 have e1 : r.off = (off : Nat) := by rw [hre]
 have e2 : r.time = (time : Nat) := by rw [hre]
 have h3 := hgd.o
 have h4 := hgd.t
 have h5 := bodyR_take (l := l) k
 constructor
 ·exact h2.1
 ·exact h2.2
 ·show (0 : Int) <= r.off
  omega
 ·show r.off < 1099511627776
  omega
 ·show (0 : Int) <= r.time
  omega
 ·show r.time < 1125899906842624
  omega
 ·show (0 : Int) <= ((p + (bodyR (l.take k)).length : Nat) : Int)
  omega
 ·show ((p + (bodyR (l.take k)).length : Nat) : Int) <= 1073741824
  omega
 ·show (14 : Int) <= ((encR r).length : Int)
  omega
 ·show ((encR r).length : Int) <= 1124
  omega
end Go.Proofs.YtendlmdmbkcdnaaGreatDoor.tp
