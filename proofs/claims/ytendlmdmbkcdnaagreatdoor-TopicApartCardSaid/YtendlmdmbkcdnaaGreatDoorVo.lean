/-
  Texts of the proof joined by a program: Kdh Toa Tob Tod Toe Tof Tog Toh Toi Toj.
-/
import Derived.Test.YtendlmdmbkcdnaaGreatDoorVn
set_option linter.unusedSimpArgs false
set_option linter.unusedVariables false
namespace Go.Proofs.YtendlmdmbkcdnaaGreatDoor.kd
open Go.RowKit Go.Shelf oc
open Go.Lib (hid)
set_option maxRecDepth 100000
attribute [local go_sem] Oper.semAt_some
set_option maxHeartbeats 4000000 in
theorem all1_in (n l c d bf bt bd : Nat) (T : KT) (J Jx : List (ByteArray × KE) -> World -> Prop) (W : World) (hJ : AbidesFrom W.heap.size J)
  (hY : ∀ pre x W, J pre W -> pre.length < T.list.length -> YieldAt Fence.wide (n - 1) Tryz.prog l (encK x) W fun e W' =>
   (e = .returned (.bool true) /\ J (pre ++ [x]) W' /\ Kc c W W') \/ (e = .returned (.bool false) /\ Jx (pre ++ [x]) W'))
  (hc : c < W.heap.size) (n0 : bf ≠ c) (n1 : bt ≠ c) (h0 : Blk W bf 9 #[.string ⟨#[]⟩]) (h1 : Blk W bt 9 #[.string ⟨#[]⟩]) (h2 : Blk W bd 104 #[.pointer (some ⟨d, 0, none⟩)])
  (hD : DirAt W (· ≠ c) d T) (hsh : T.short) (hj : J [] W) :
  CallsIn Fence.wide n Tryz.prog 102 #[.func (.yield l) #[] #[], .pointer (some ⟨bf, 0, none⟩), .pointer (some ⟨bt, 0, none⟩), .pointer (some ⟨bd, 0, none⟩)] W fun e W' =>
   (∃ v, e = .returned v) /\ ((∃ xs, xs = T.list /\ J xs W') \/ (∃ pre, pre <+: T.list /\ Jx pre W')) := by
 obtain ⟨p, hDB, hT⟩ := hD
 have HY : Hid (∀ m pre x W, J pre W -> pre.length < T.list.length -> YieldAt Fence.wide m Tryz.prog l (encK x) W fun e W' =>
   (e = .returned (.bool true) /\ J (pre ++ [x]) W' /\ Kc c W W') \/ (e = .returned (.bool false) /\ Jx (pre ++ [x]) W')) := hid (fun m pre x W h hl => YieldAt.any m (hY pre x W h hl))
 obtain ⟨W2, hW2⟩ : ∃ y, ((W.alloc (.cells #[.func (.yield l) #[] #[]] 197)).alloc (.cells #[.func (.func 103) #[] #[.pointer (some ⟨bf, 0, none⟩), .pointer (some ⟨bt, 0, none⟩), .pointer (some ⟨W.heap.size + 1, 0, none⟩), .pointer (some ⟨W.heap.size, 0, none⟩)]] 198)) = y := ⟨_, rfl⟩
 have hb2 : Below W.heap.size W W2 := by rw [<- hW2]; exact ((Below.refl _ _).alloc (Nat.le_refl _) _).alloc (by simp) _
 have HBX : Hid (Boxes c bf bt (W.heap.size + 1) W.heap.size l W2) := hid {
  n0 := n0, n1 := n1, n2 := by omega, n3 := by omega
  h0 := h0.below hb2 h0.lt, h1 := h1.below hb2 h1.lt
  h2 := by
   rw [<- hW2]
   have := Blk.new (W.alloc (.cells #[.func (.yield l) #[] #[]] 197)) 198 #[.func (.func 103) #[] #[.pointer (some ⟨bf, 0, none⟩), .pointer (some ⟨bt, 0, none⟩), .pointer (some ⟨W.heap.size + 1, 0, none⟩), .pointer (some ⟨W.heap.size, 0, none⟩)]]
   rwa [World.size_alloc] at this
  h3 := by rw [<- hW2]; exact (Blk.new W _ _).alloc _ }
 have HJ2 : Hid (J [] W2) := hid (abides hJ hj hb2)
 have HT2 : Hid (TreeAt W2 (· ≠ c) T p) := hid (hT.kc (Kc.below hb2))
 have HSH := hid hsh
 have c2 := fun d' os => cell_regrown (show W2.cell? ⟨bd, 0, none⟩ = some (.pointer (some ⟨d, 0, none⟩)) from ((h2.below hb2 h2.lt).cell 0).trans rfl) d' os
 have c3 := fun d' os => cell_regrown (show W2.cell? ⟨W.heap.size + 1, 0, none⟩ = some (.func (.func 103) #[] #[.pointer (some ⟨bf, 0, none⟩), .pointer (some ⟨bt, 0, none⟩), .pointer (some ⟨W.heap.size + 1, 0, none⟩), .pointer (some ⟨W.heap.size, 0, none⟩)]) from (HBX.out.h2.cell 0).trans rfl) d' os
 have q1 : QC Tryz.prog W2 105 #[.pointer (some ⟨d, 0, none⟩)] (.pointer (pa p)) := same_regrown (fun W' hb => top_any W' d (pa p) ((hDB.below hb2 hDB.lt).below hb (hDB.below hb2 hDB.lt).lt))
 have hdd : ∀ k : Nat, (Fence.wide.depth.isSome = true -> 1 <= k) := fun k h => by cases h
 clear hY hc n0 n1 h0 h1 h2 hDB hT hsh hj hb2
 refine callsIn_of_wp Tryz.func102 rfl trivial ?_ rfl
 simp only [Tryz.ntmps102, List.size_toArray, List.length_cons, List.length_nil, Nat.reduceAdd, Nat.reduceSub, Array.replicate_succ, Array.replicate_zero, List.push_toArray, List.append_toArray, List.nil_append, List.cons_append]
 gi_wp2
 clear hW2
 refine wpIn_quiet_tail 3 (by kernel_rfl) (by kernel_rfl) (by kernel_rfl) ?_
 simp only [List.take, List.drop]
 repeat (first | go_big_quiet_skip | (go_big_quiet_want; go_big_quiet_op; first | go_big_quiet_on | (apply Exists.intro; refine ⟨fun _ => ?_, ?_⟩; · (first | with_reducible exact q1 _ _)); go_big_quiet_on))
 refine wpQuiet_nil ?_
 intro W3 hw'
 obtain ⟨⟨dq3, osq3⟩, hw''⟩ := hw'
 have hb3 : Below W2.heap.size W2 W3 := by rw [hw'']; exact below_regrown W2 dq3 osq3
 have hp := push_in l T.list.length c W.heap.size J Jx hJ bf bt (W.heap.size + 1) W.heap.size HY T (n - 1) p [] W3 (HT2.out.kc (Kc.below hb3)) (HBX.out.kc (Kc.below hb3)) (abides hJ HJ2.out hb3) (by simp [KT.list_len]) HSH.out
 change CallsIn _ _ _ _ #[.pointer (pa p), _, _, _, _] _ _ at hp
 clear hw'' hb3 c2 c3 q1 HT2 HBX HJ2
 gi_wp2
 refine ⟨trivial, hdd _, hp.mono ?_⟩
 clear hp
 rintro e4 W4 (⟨rfl, hJ4, -⟩ | ⟨rfl, q, hq, hx⟩)
 ·gi_wp2
  go_end0
  exact ⟨⟨_, rfl⟩, .inl ⟨_, rfl, by simpa using hJ4⟩⟩
 ·gi_wp2
  go_end0
  exact ⟨⟨_, rfl⟩, .inr ⟨q, hq, by simpa using hx⟩⟩
theorem all_in (n : Nat) (x : Option Addr) (a b : ByteArray) (w : World) :
  CallsIn Fence.wide n Tryz.prog 43 #[.pointer x, .string a, .string b] w fun e w' => e = .returned (.func (.func 102) #[] #[.pointer (some ⟨w.heap.size + 1, 0, none⟩), .pointer (some ⟨w.heap.size + 1 + 1, 0, none⟩), .pointer (some ⟨w.heap.size, 0, none⟩)]) /\
   w' = ((w.alloc (.cells #[.pointer x] 104)).alloc (.cells #[.string a] 9)).alloc (.cells #[.string b] 9) := by
 refine callsIn_of_wp Tryz.func43 rfl trivial ?_ rfl
 simp only [Tryz.ntmps43, List.size_toArray, List.length_cons, List.length_nil, Nat.reduceAdd, Nat.reduceSub, Array.replicate_succ, Array.replicate_zero, List.push_toArray, List.append_toArray, List.nil_append, List.cons_append]
 gi_wp2
 go_ret
 exact ⟨rfl, rfl⟩
theorem all_stops (n c d bf bt bd : Nat) (T : KT) (w : World) (hc : c < w.heap.size) (n0 : bf ≠ c) (n1 : bt ≠ c) (h0 : Blk w bf 9 #[.string ⟨#[]⟩]) (h1 : Blk w bt 9 #[.string ⟨#[]⟩]) (h2 : Blk w bd 104 #[.pointer (some ⟨d, 0, none⟩)])
  (hD : DirAt w (· ≠ c) d T) (hsh : T.short) :
  SeqStopsK Fence.wide n Tryz.prog 102 #[.pointer (some ⟨bf, 0, none⟩), .pointer (some ⟨bt, 0, none⟩), .pointer (some ⟨bd, 0, none⟩)] encK (Kc c) (fun ys => ys = T.list) (fun pre => pre <+: T.list) T.list.length w := fun l J Jx W hW hJ _ hY hj =>
 all1_in n l c d bf bt bd T J Jx W hJ hY (Nat.lt_of_lt_of_le hc hW.size) n0 n1 (h0.below hW h0.lt) (h1.below hW h1.lt) (h2.below hW h2.lt) (hD.below hW) hsh hj
theorem kc_put (c : Nat) (W : World) (l : Nat) (o o' : Obj) (hl : W.heap[l]? = some o) (h1 : o.isCells = false) : Kc c W (W.putObj l o') := by
 refine ⟨by simp [World.putObj], fun i cs t fr _ hi => ?_⟩
 have hne : i ≠ l := by
  rintro rfl
  rw [hl] at hi
  injection hi with hi
  subst hi
  cases h1
 simp only [World.putObj]
 rw [Array.getElem?_setIfInBounds_ne (Ne.symm hne)]
 exact hi
end Go.Proofs.YtendlmdmbkcdnaaGreatDoor.kd
namespace Go.Proofs.YtendlmdmbkcdnaaGreatDoor.tp
open Go.RowKit Go.Maps Go.WideMaps oc rc gh dk sg ma hi
open Go.Lib (hid)
set_option maxRecDepth 100000
structure Tc where
 d : Nat
 id : Int
 lim : Int
 ret : Int
 man : ManS
 sA : Option Addr
 sc : Nat
 pA : Option Addr
 pc : Nat
 seg : Option Addr
 dir : Nat
 tc : Nat
 ta : Nat
 wA : Option Addr
 wn : Nat
 wc : Nat
 next : Int
 clock : Int
 nextSeg : Int
 told : Nat
 cached : Nat
 gone : Bool
def placeC (d : Nat) (id lim ret : Int) : Array Value := #[.pointer (some ⟨d, 0, none⟩), .int .i64 id, .int .i64 lim, .int .i64 ret]
def Tc.cells (t : Tc) : Array Value := #[.pointer (some ⟨t.d, 0, none⟩), .int .i64 t.id, .int .i64 t.lim, .int .i64 t.ret,
 .int .i64 (t.man.id : Int), .int .i64 (t.man.nextSeg : Int), .int .i64 (t.man.next : Int), .int .i64 (t.man.mark : Int), .int .i64 (t.man.clock : Int), .slice t.sA t.man.segs.length t.sc, .slice t.pA t.man.prods.length t.pc,
 .pointer t.seg, .pointer (some ⟨t.dir, 0, none⟩), .pointer (some ⟨t.tc, 0, none⟩), .pointer (some ⟨t.ta, 0, none⟩), .slice t.wA t.wn t.wc,
 .int .i64 t.next, .int .i64 t.clock, .int .i64 t.nextSeg, .map (some t.told), .map (some t.cached), .bool t.gone, .bool false]
structure Wt where
 r : Rc
 pos : Int
def wtC (x : Wt) : List Value := [.int .i64 x.r.kind, .int .i64 x.r.off, .int .i64 x.r.time, .int .i64 x.r.pid, .int .i64 x.r.seq, .string x.r.key, .string x.r.val, .int .i64 x.pos]
theorem isTime_any (w : World) (n : Int) : Calls Tryz.prog 47 #[.int .i64 n] w fun e w' => e = .returned (.bool (decide (0 <= n) && decide (n < 1125899906842624))) /\ w' = w := by
 go_enter Tryz.func47, Tryz.ntmps47
 by_cases h1 : 0 <= n
 ·have g1 : decide (0 <= n) = true := decide_eq_true h1
  go_wp2_with fail
  go_ret
  simp [h1]
 ·have g1 : decide (0 <= n) = false := decide_eq_false h1
  go_wp2_with fail
  go_ret
  exact ⟨by simp only [g1, Bool.false_and]; rfl, rfl⟩
theorem usable_ok (w : World) (t : Nat) (c : Tc) (h : Blk w t 110 c.cells) (hg : c.gone = false) : Calls Tryz.prog 55 #[.pointer (some ⟨t, 0, none⟩)] w fun e w' => e = .returned (.int .i64 0) /\ w' = w := by
 have c21 : w.cell? ⟨t, 21, none⟩ = some (.bool false) := (h.cell 21).trans (by rw [Tc.cells, hg]; rfl)
 clear h
 go_enter Tryz.func55, Tryz.ntmps55
 go_wp2_with fail
 go_ret
 exact ⟨rfl, rfl⟩
def nextN (c : Tc) (ws : List Wt) : Int := match ws.getLast? with
 | some x => wrap64 (x.r.off + 1)
 | none => c.next
theorem next_any (w : World) (t : Nat) (c : Tc) (ws : List Wt) (h : Blk w t 110 c.cells) (hn : c.wn = ws.length) (B : Nat) (hw : w.ownsRow B 135 8 (.slice c.wA c.wn c.wc) c.wn (ws.flatMap wtC)) (hl : ws.length <= 1073741824) :
  Calls Tryz.prog 42 #[.pointer (some ⟨t, 0, none⟩)] w fun e w' => e = .returned (.int .i64 (nextN c ws)) /\ w' = w := by
 have c15 : w.cell? ⟨t, 15, none⟩ = some (.slice c.wA c.wn c.wc) := (h.cell 15).trans rfl
 have c16 : w.cell? ⟨t, 16, none⟩ = some (.int .i64 c.next) := (h.cell 16).trans rfl
 rw [hn] at c15 hw
 clear h
 by_cases h0 : 0 < ws.length
 ·obtain ⟨x, hx⟩ : ∃ x, ws[ws.length - 1]? = some x := ⟨_, List.getElem?_eq_getElem (by omega)⟩
  have hN : nextN c ws = wrap64 (x.r.off + 1) := by rw [nextN, List.getLast?_eq_getElem?, hx]
  obtain ⟨g, cap, hv, _, hlt⟩ := hw.form h0
  have hk := hw.cells (g := g)
  rw [hv] at hk
  have e1 := hk rfl ((ws.length - 1) * 8 + 1) (.int .i64 x.r.off) (flat_get wtC 8 (fun _ => rfl) ws _ 1 x _ hx rfl)
  rw [add_flat, Nat.zero_add] at e1
  injection hv with hA hl2 hc
  rw [hA] at c15
  have t1 : ((ws.length : Int) - 1).toNat = ws.length - 1 := by omega
  have i1 : IntKind.i64.wrap ((ws.length : Int) - 1) = (ws.length : Int) - 1 := by rw [IntKind.wrap_i64]; omega
  have b0 : (0 : Int) <= (ws.length : Int) - 1 := by omega
  have b1 : (ws.length : Int) - 1 < (ws.length : Int) := by omega
  have HN := hid hN
  clear hx hN hk hA hc hl2 hw hlt
  go_enter Tryz.func42, Tryz.ntmps42
  go_wp2_with fail
  go_ret
  exact ⟨by rw [HN.out]; rfl, rfl⟩
 ·have hz : ws.length = 0 := by omega
  have hN : nextN c ws = c.next := by rw [nextN, List.eq_nil_of_length_eq_zero hz]; rfl
  have HN := hid hN
  rw [hz] at c15
  clear hN hw h0 hl
  go_enter Tryz.func42, Tryz.ntmps42
  go_wp2_with fail
  go_ret
  exact ⟨by rw [HN.out]; rfl, rfl⟩
end Go.Proofs.YtendlmdmbkcdnaaGreatDoor.tp
namespace Go.Proofs.YtendlmdmbkcdnaaGreatDoor.tp
open Go.RowKit Go.Maps Go.WideMaps oc rc gh dk sg ma hi kd
open Go.Lib (hid)
set_option maxRecDepth 100000
def entK (seg : Int) (x : Pl) : KE := ⟨seg, x.pos, x.size, x.r.off, x.r.time, x.r.kind == 2⟩
set_option maxHeartbeats 8000000 in
theorem tnote_any (w : World) (F : Nat -> Prop) (hF : ∀ i, w.heap.size <= i -> F i) (t : Nat) (c : Tc) (T : KT) (h : Blk w t 110 c.cells) (hD : DirAt w F c.dir T) (hd : ¬ F c.dir) (hs : T.short) (hn : T.count + 1 <= 1099511627776) (seg : Int) (x : Pl) (h1 : 1 <= x.r.key.size) (h2 : x.r.key.size <= 64) :
  Calls Tryz.prog 82 #[.pointer (some ⟨t, 0, none⟩), .int .i64 seg, .agg (plC x).toArray] w fun e w' => e = .returned (.tuple #[]) /\ DirAt w' F c.dir (noteT x.r.key (entK seg x) T) /\ w.grownBy w' (some c.dir) := by
 obtain ⟨⟨x0, x1, x2, x3, x4, x5, x6⟩, x7, x8⟩ := x
 dsimp only [plC, entK] at h1 h2 ⊢
 obtain ⟨W, hW⟩ : ∃ y, (w.alloc (.cells #[.int .i64 x0, .int .i64 x1, .int .i64 x2, .int .i64 x3, .int .i64 x4, .string x5, .string x6, .int .i64 x7, .int .i64 x8] 86)).alloc (.cells #[.int .i64 x0, .int .i64 x1, .int .i64 x2, .int .i64 x3, .int .i64 x4, .string x5, .string x6] 47) = y := ⟨_, rfl⟩
 have HBW : Hid (Below w.heap.size w W) := by rw [<- hW]; exact hid (((Below.refl _ _).alloc (Nat.le_refl _) _).alloc (by simp) _)
 have b5 : Blk W w.heap.size 86 #[.int .i64 x0, .int .i64 x1, .int .i64 x2, .int .i64 x3, .int .i64 x4, .string x5, .string x6, .int .i64 x7, .int .i64 x8] := by rw [<- hW]; exact (Blk.new w _ _).alloc _
 have b6 : Blk W (w.heap.size + 1) 47 #[.int .i64 x0, .int .i64 x1, .int .i64 x2, .int .i64 x3, .int .i64 x4, .string x5, .string x6] := by
  rw [<- hW]
  have := Blk.new (w.alloc (.cells #[.int .i64 x0, .int .i64 x1, .int .i64 x2, .int .i64 x3, .int .i64 x4, .string x5, .string x6, .int .i64 x7, .int .i64 x8] 86)) 47 #[.int .i64 x0, .int .i64 x1, .int .i64 x2, .int .i64 x3, .int .i64 x4, .string x5, .string x6]
  rwa [World.size_alloc] at this
 have kt := fun d' os => cell_regrown (show W.cell? ⟨t, 12, none⟩ = some (.pointer (some ⟨c.dir, 0, none⟩)) from ((h.below HBW.out h.lt).cell 12).trans rfl) d' os
 have k51 := fun d' os => cell_regrown (show W.cell? ⟨w.heap.size, 7, none⟩ = some (.int .i64 x7) from (b5.cell 7).trans rfl) d' os
 have k52 := fun d' os => cell_regrown (show W.cell? ⟨w.heap.size, 8, none⟩ = some (.int .i64 x8) from (b5.cell 8).trans rfl) d' os
 have k60 := fun d' os => cell_regrown (show W.cell? ⟨w.heap.size + 1, 0, none⟩ = some (.int .i64 x0) from (b6.cell 0).trans rfl) d' os
 have k61 := fun d' os => cell_regrown (show W.cell? ⟨w.heap.size + 1, 1, none⟩ = some (.int .i64 x1) from (b6.cell 1).trans rfl) d' os
 have k62 := fun d' os => cell_regrown (show W.cell? ⟨w.heap.size + 1, 2, none⟩ = some (.int .i64 x2) from (b6.cell 2).trans rfl) d' os
 have k65 := fun d' os => cell_regrown (show W.cell? ⟨w.heap.size + 1, 5, none⟩ = some (.string x5) from (b6.cell 5).trans rfl) d' os
 have HN := hid (fun W' (hb : Below w.heap.size w W') => note_any W' F (fun i hi => hF i (Nat.le_trans hb.size hi)) c.dir hd T x5 ⟨seg, x7, x8, x1, x2, x0 == 2⟩ (hD.below hb) hs h1 h2 hn)
 clear h hD hd hs hn h1 h2 hF b5 b6
 go_enter Tryz.func82, Tryz.ntmps82
 go_wp2_with fail
 try rw [hW]
 clear hW
 refine wp_quiet_tail 19 (by kernel_rfl) (by kernel_rfl) (by kernel_rfl) ?_
 simp only [List.take, List.drop]
 repeat (first | go_big_quiet_skip | (go_big_quiet_want; go_big_quiet_op; go_big_quiet_on))
 refine wpQuiet_nil ?_
 intro W1 hw'
 obtain ⟨⟨dq, osq⟩, hw''⟩ := hw'
 have HB1 : Hid (Below w.heap.size w W1) := by rw [hw'']; exact hid (HBW.out.trans ((below_regrown W dq osq).mono HBW.out.size))
 clear hw'' kt k51 k52 k60 k61 k62 k65
 go_wp2_with fail
 refine (HN.out W1 HB1.out).mono ?_
 rintro e w2 ⟨⟨b, rfl⟩, hd2, hg2⟩
 have HD2 := hid hd2
 have HG2 := hid hg2
 clear hd2 hg2
 go_wp2_with fail
 go_end0
 exact ⟨rfl, HD2.out, grownBy_tr (grown_below HB1.out) HG2.out⟩
theorem DK.usedq {w : World} {G : Gh} {d : Nat} {q : Int} {l : List Fil} {no L : Nat} (h : DK w G d q l no L) : ((sumF l : Nat) : Int) <= q /\ q <= 1073741824 := by
 obtain ⟨S, _, hk⟩ := h
 have h1 := hk.used
 have h2 := hk.usedq
 exact ⟨by omega, hk.q0⟩
set_option maxHeartbeats 4000000 in
theorem room_any (w : World) (G : Gh) (d : Nat) (q : Int) (l : List Fil) (no L : Nat) (h : DK w G d q l no L) (id lim ret n : Int) (hn : 0 <= n /\ n <= 1073741824) :
  Calls Tryz.prog 50 #[.agg (placeC d id lim ret), .int .i64 n] w fun e w' => e = .returned (.bool (decide (4096 <= q - (sumF l : Nat) - n))) /\ Below w.heap.size w w' := by
 have hu := DK.usedq h
 obtain ⟨W, hW⟩ : ∃ y, w.alloc (.cells (placeC d id lim ret) 102) = y := ⟨_, rfl⟩
 have HBW : Hid (Below w.heap.size w W) := by rw [<- hW]; exact hid ((Below.refl _ _).alloc (Nat.le_refl _) _)
 have b2 : Blk W w.heap.size 102 (placeC d id lim ret) := by rw [<- hW]; exact Blk.new w _ _
 have k0 := fun d' os => cell_regrown (show W.cell? ⟨w.heap.size, 0, none⟩ = some (.pointer (some ⟨d, 0, none⟩)) from (b2.cell 0).trans rfl) d' os
 have q1 : QC Tryz.prog W 11 #[.pointer (some ⟨d, 0, none⟩)] (.int .i64 q) := same_regrown (fun W' hb => dk_quota W' G d q l no L ((h.below HBW.out).below hb))
 have q2 : QC Tryz.prog W 12 #[.pointer (some ⟨d, 0, none⟩)] (.int .i64 (sumF l : Nat)) := same_regrown (fun W' hb => dk_used W' G d q l no L ((h.below HBW.out).below hb))
 have h0 : (0 : Int) <= ((sumF l : Nat) : Int) := by omega
 generalize ((sumF l : Nat) : Int) = u at *
 have e1 : IntKind.i64.wrap (q - u) = q - u := by rw [IntKind.wrap_i64]; omega
 have e2 : IntKind.i64.wrap (q - u - n) = q - u - n := by rw [IntKind.wrap_i64]; omega
 clear h hu h0 hn b2
 unfold placeC at hW ⊢
 go_enter Tryz.func50, Tryz.ntmps50
 go_wp2_with fail
 try rw [hW]
 clear hW
 refine wp_quiet_tail 10 (by kernel_rfl) (by kernel_rfl) (by kernel_rfl) ?_
 simp only [List.take, List.drop]
 repeat (first | go_big_quiet_skip | (go_big_quiet_want; go_big_quiet_op; first | go_big_quiet_on | (apply Exists.intro; refine ⟨fun _ => ?_, ?_⟩; · (first | with_reducible exact q1 _ _ | with_reducible exact q2 _ _)); go_big_quiet_on))
 refine wpQuiet_nil ?_
 intro W1 hw'
 obtain ⟨⟨dq, osq⟩, hw''⟩ := hw'
 have HB1 : Hid (Below w.heap.size w W1) := by rw [hw'']; exact hid (HBW.out.trans ((below_regrown W dq osq).mono HBW.out.size))
 clear hw'' k0 q1 q2
 go_wp2_with fail
 go_ret
 exact ⟨rfl, HB1.out⟩
end Go.Proofs.YtendlmdmbkcdnaaGreatDoor.tp
namespace Go.Proofs.YtendlmdmbkcdnaaGreatDoor.tp
open Go.RowKit Go.Maps Go.WideMaps oc rc gh dk sg ma hi kd
set_option maxRecDepth 100000
theorem isTime_ok (w : World) (n : Int) (h : 0 <= n /\ n < 1125899906842624) : Calls Tryz.prog 47 #[.int .i64 n] w fun e w' => e = .returned (.bool true) /\ w' = w := by
 have := isTime_any w n
 rwa [decide_eq_true h.1, decide_eq_true h.2] at this
set_option maxHeartbeats 2000000 in
theorem fit_ok (w : World) (d : Nat) (id lim ret now : Int) (h1 : 0 <= id /\ id < 1073741824) (h2 : 256 <= lim /\ lim <= 65536) (h3 : 0 <= ret /\ ret <= 1099511627776) (h4 : 0 <= now /\ now < 1125899906842624) :
  Calls Tryz.prog 36 #[.pointer (some ⟨d, 0, none⟩), .int .i64 id, .int .i64 lim, .int .i64 ret, .int .i64 now] w fun e w' => e = .returned (.int .i64 0) /\ w' = w := by
 have n1 := isTime_ok w now h4
 have g1 : decide (id < 0) = false := decide_eq_false (by omega)
 have g2 : decide ((1073741824 : Int) <= id) = false := decide_eq_false (by omega)
 have g3 : decide (lim < 256) = false := decide_eq_false (by omega)
 have g4 : decide ((65536 : Int) < lim) = false := decide_eq_false (by omega)
 have g5 : decide (ret < 0) = false := decide_eq_false (by omega)
 have g6 : decide ((1099511627776 : Int) < ret) = false := decide_eq_false (by omega)
 clear h1 h2 h3 h4
 go_enter Tryz.func36, Tryz.ntmps36
 go_wp2_with (first
  | (go_at_call 47; with_reducible refine n1.mono ?_; rintro e w1 ⟨rfl, rfl⟩)
  | fail)
 go_ret
 exact ⟨rfl, rfl⟩
structure Wr where
 key : ByteArray
 val : ByteArray
 tomb : Bool
 pid : Int
 seq : Int
def Wr.cells (x : Wr) : Array Value := #[.string x.key, .string x.val, .bool x.tomb, .int .i64 x.pid, .int .i64 x.seq]
def Wr.rc (x : Wr) (off time : Int) : Rc := ⟨if x.tomb then 2 else 1, off, time, x.pid, x.seq, x.key, x.val⟩
end Go.Proofs.YtendlmdmbkcdnaaGreatDoor.tp
namespace Go.Proofs.YtendlmdmbkcdnaaGreatDoor.tp
open Go.RowKit Go.Maps Go.WideMaps oc rc gh dk sg ma hi kd
open Go.Lib (hid)
set_option maxRecDepth 100000
set_option maxHeartbeats 4000000 in
theorem make_any (w : World) (x : Wr) (off time : Int) :
  Calls Tryz.prog 14 #[.agg x.cells, .int .i64 off, .int .i64 time] w fun e w' => e = .returned (.agg (x.rc off time).cells) /\ Below w.heap.size w w' := by
 obtain ⟨x0, x1, x2, x3, x4⟩ := x
 dsimp only [Wr.cells, Wr.rc, Rc.cells]
 obtain ⟨W, hW⟩ : ∃ y, ((w.alloc (.cells #[.string x0, .string x1, .bool x2, .int .i64 x3, .int .i64 x4] 35)).alloc (.cells #[.int .i64 0, .int .i64 0, .int .i64 0, .int .i64 0, .int .i64 0, .string ⟨#[]⟩, .string ⟨#[]⟩] 47)).alloc (.cells #[.int .i64 1, .int .i64 off, .int .i64 time, .int .i64 x3, .int .i64 x4, .string x0, .string x1] 47) = y := ⟨_, rfl⟩
 have HBW : Hid (Below w.heap.size w W) := by rw [<- hW]; exact hid ((((Below.refl _ _).alloc (Nat.le_refl _) _).alloc (by simp) _).alloc (by simp; omega) _)
 have HB3 : Hid (Blk W w.heap.size 35 #[.string x0, .string x1, .bool x2, .int .i64 x3, .int .i64 x4]) := by rw [<- hW]; exact hid (((Blk.new w _ _).alloc _).alloc _)
 have HB6 : Hid (Blk W (w.heap.size + 1) 47 #[.int .i64 0, .int .i64 0, .int .i64 0, .int .i64 0, .int .i64 0, .string ⟨#[]⟩, .string ⟨#[]⟩]) := by
  rw [<- hW]
  have := (Blk.new (w.alloc (.cells #[.string x0, .string x1, .bool x2, .int .i64 x3, .int .i64 x4] 35)) 47 #[.int .i64 0, .int .i64 0, .int .i64 0, .int .i64 0, .int .i64 0, .string ⟨#[]⟩, .string ⟨#[]⟩]).alloc (.cells #[.int .i64 1, .int .i64 off, .int .i64 time, .int .i64 x3, .int .i64 x4, .string x0, .string x1] 47)
  rw [World.size_alloc] at this
  exact hid this
 have HB7 : Hid (Blk W (w.heap.size + 1 + 1) 47 #[.int .i64 1, .int .i64 off, .int .i64 time, .int .i64 x3, .int .i64 x4, .string x0, .string x1]) := by
  rw [<- hW]
  have := Blk.new ((w.alloc (.cells #[.string x0, .string x1, .bool x2, .int .i64 x3, .int .i64 x4] 35)).alloc (.cells #[.int .i64 0, .int .i64 0, .int .i64 0, .int .i64 0, .int .i64 0, .string ⟨#[]⟩, .string ⟨#[]⟩] 47)) 47 #[.int .i64 1, .int .i64 off, .int .i64 time, .int .i64 x3, .int .i64 x4, .string x0, .string x1]
  rw [World.size_alloc, World.size_alloc] at this
  exact hid this
 have c2 : W.cell? ⟨w.heap.size, 2, none⟩ = some (.bool x2) := (HB3.out.cell 2).trans rfl
 have c70 : W.cell? ⟨w.heap.size + 1 + 1, 0, none⟩ = some (.int .i64 1) := (HB7.out.cell 0).trans rfl
 have f70 : W.frozen? ⟨w.heap.size + 1 + 1, 0, none⟩ = false := HB7.out.frozen 0
 have hne : w.heap.size + 1 ≠ w.heap.size + 1 + 1 := by omega
 have HNE := hid hne
 clear hne
 cases x2 with
 | false =>
  have k0 : W.cell? ⟨w.heap.size + 1 + 1, 0, none⟩ = some (.int .i64 1) := (HB7.out.cell 0).trans rfl
  have k1 : W.cell? ⟨w.heap.size + 1 + 1, 1, none⟩ = some (.int .i64 off) := (HB7.out.cell 1).trans rfl
  have k2 : W.cell? ⟨w.heap.size + 1 + 1, 2, none⟩ = some (.int .i64 time) := (HB7.out.cell 2).trans rfl
  have k3 : W.cell? ⟨w.heap.size + 1 + 1, 3, none⟩ = some (.int .i64 x3) := (HB7.out.cell 3).trans rfl
  have k4 : W.cell? ⟨w.heap.size + 1 + 1, 4, none⟩ = some (.int .i64 x4) := (HB7.out.cell 4).trans rfl
  have k5 : W.cell? ⟨w.heap.size + 1 + 1, 5, none⟩ = some (.string x0) := (HB7.out.cell 5).trans rfl
  have k6 : W.cell? ⟨w.heap.size + 1 + 1, 6, none⟩ = some (.string x1) := (HB7.out.cell 6).trans rfl
  clear c70 f70
  go_enter Tryz.func14, Tryz.ntmps14
  go_wp2_with (first
   | ((with_reducible refine at_op ⟨none, .store 47 (.tmp 6) (.tmp 22), _, _, _, _⟩ ?_); refine wpList_store_blk rfl 47 (.tmp 6) (.tmp 22) rfl (w.heap.size + 1) 0 rfl [.int .i64 1, .int .i64 off, .int .i64 time, .int .i64 x3, .int .i64 x4, .string x0, .string x1] rfl (by simp [Value.oneCell']) 47 _ HB6.out (by simp) (by kernel_rfl) ?_; intro w9 hT9 hg9 hs9; have HT9 := hid hT9; have HG9 := hid hg9; clear hT9 hg9 hs9)
   | fail)
  refine bodyPost_ret (results_cell_row rfl _ _ (w.heap.size + 1) 47 #[.int .i64 1, .int .i64 off, .int .i64 time, .int .i64 x3, .int .i64 x4, .string x0, .string x1] (0, 0) _ rfl HT9.out Tryz.underlying47 rfl (by kernel_rfl)) rfl ?_
  exact ⟨rfl, HBW.out.grown HG9.out HBW.out.size (fun j hj => by injection hj with hj; omega)⟩
 | true =>
  obtain ⟨W2, hW2⟩ : ∃ y, W.setCell ⟨w.heap.size + 1 + 1, 0, none⟩ (.int .i64 2) = y := ⟨_, rfl⟩
  have HB72 : Hid (Blk W2 (w.heap.size + 1 + 1) 47 #[.int .i64 2, .int .i64 off, .int .i64 time, .int .i64 x3, .int .i64 x4, .string x0, .string x1]) := by rw [<- hW2]; exact hid (HB7.out.set_ 0 (.int .i64 2))
  have HB62 : Hid (Blk W2 (w.heap.size + 1) 47 #[.int .i64 0, .int .i64 0, .int .i64 0, .int .i64 0, .int .i64 0, .string ⟨#[]⟩, .string ⟨#[]⟩]) := by rw [<- hW2]; exact hid (HB6.out.far (by exact HNE.out) _)
  have HBW2 : Hid (Below w.heap.size w W2) := by rw [<- hW2]; exact hid (HBW.out.setCell (by simp; omega) _)
  have k0 : W2.cell? ⟨w.heap.size + 1 + 1, 0, none⟩ = some (.int .i64 2) := (HB72.out.cell 0).trans rfl
  have k1 : W2.cell? ⟨w.heap.size + 1 + 1, 1, none⟩ = some (.int .i64 off) := (HB72.out.cell 1).trans rfl
  have k2 : W2.cell? ⟨w.heap.size + 1 + 1, 2, none⟩ = some (.int .i64 time) := (HB72.out.cell 2).trans rfl
  have k3 : W2.cell? ⟨w.heap.size + 1 + 1, 3, none⟩ = some (.int .i64 x3) := (HB72.out.cell 3).trans rfl
  have k4 : W2.cell? ⟨w.heap.size + 1 + 1, 4, none⟩ = some (.int .i64 x4) := (HB72.out.cell 4).trans rfl
  have k5 : W2.cell? ⟨w.heap.size + 1 + 1, 5, none⟩ = some (.string x0) := (HB72.out.cell 5).trans rfl
  have k6 : W2.cell? ⟨w.heap.size + 1 + 1, 6, none⟩ = some (.string x1) := (HB72.out.cell 6).trans rfl
  clear HB7 HB6 HBW HB3
  go_enter Tryz.func14, Tryz.ntmps14
  go_wp2_with (first
   | ((with_reducible refine at_op ⟨none, .store 47 (.tmp 6) (.tmp 22), _, _, _, _⟩ ?_); refine wpList_store_blk rfl 47 (.tmp 6) (.tmp 22) rfl (w.heap.size + 1) 0 rfl [.int .i64 2, .int .i64 off, .int .i64 time, .int .i64 x3, .int .i64 x4, .string x0, .string x1] rfl (by simp [Value.oneCell']) 47 _ HB62.out (by simp) (by kernel_rfl) ?_; intro w9 hT9 hg9 hs9; have HT9 := hid hT9; have HG9 := hid hg9; clear hT9 hg9 hs9)
   | fail)
  refine bodyPost_ret (results_cell_row rfl _ _ (w.heap.size + 1) 47 #[.int .i64 2, .int .i64 off, .int .i64 time, .int .i64 x3, .int .i64 x4, .string x0, .string x1] (0, 0) _ rfl HT9.out Tryz.underlying47 rfl (by kernel_rfl)) rfl ?_
  exact ⟨rfl, HBW2.out.grown HG9.out HBW2.out.size (fun j hj => by injection hj with hj; omega)⟩
end Go.Proofs.YtendlmdmbkcdnaaGreatDoor.tp
namespace Go.Proofs.YtendlmdmbkcdnaaGreatDoor.tp
open Go.RowKit Go.Maps Go.WideMaps oc rc gh dk sg ma hi kd
set_option maxRecDepth 100000
def slD (b n c : Nat) : DataW Unit := .agg [.lit (.int .i64 (b : Int)), .lit (.int .i64 (n : Int)), .lit (.int .i64 (c : Int))]
def slR : Value -> Option (DataW Unit × List MemPlace)
 | .slice (some ⟨b, 0, none⟩) n c => some (slD b n c, [])
 | .slice none 0 0 => some (.nil, [])
 | _ => none
theorem slR_of {v : Value} {b n c : Nat} {ps : List MemPlace} (h : slR v = some (slD b n c, ps)) : v = .slice (some ⟨b, 0, none⟩) n c := by
 unfold slR at h
 split at h
 ·simp only [slD, Option.some.injEq, Prod.mk.injEq, DataW.agg.injEq, List.cons.injEq, DataW.lit.injEq, Lit.int.injEq, true_and, and_true] at h
  obtain ⟨⟨h1, h2, h3⟩, _⟩ := h
  have e1 := Int.ofNat.inj h1
  have e2 := Int.ofNat.inj h2
  have e3 := Int.ofNat.inj h3
  subst e1
  subst e2
  subst e3
  rfl
 ·simp [slD] at h
 ·cases h
theorem slR_nil {v : Value} {ps : List MemPlace} (h : slR v = some (.nil, ps)) : v = .slice none 0 0 := by
 unfold slR at h
 split at h
 ·simp [slD] at h
 ·rfl
 ·cases h
theorem zeroS (w : World) : (zeroValue 80).run Tryz.prog w = .ok (.slice none 0 0) w := by kernel_rfl
def slV : Option (Nat × Nat × Nat) -> Value
 | none => .slice none 0 0
 | some (b, n, c) => .slice (some ⟨b, 0, none⟩) n c
def slO : Option (Nat × Nat × Nat) -> DataW Unit
 | none => .nil
 | some (b, n, c) => slD b n c
theorem look_row {W : World} {m n : Nat} {D : DataW Unit} (h : W.ownsMap Tryz.prog 3 slR m n D) {s : Int} {o : Option (Nat × Nat × Nat)} (h0 : -9223372036854775808 <= s) (h1 : s <= 9223372036854775807) (he : D.atKey (.int .i64 s) .nil = slO o) :
  (Instr.lookup 108 (.map (some m)) (.int .i64 s) false).run Tryz.prog W = .ok (slV o) W := by
 obtain ⟨v, ps, hr, hv⟩ := h.lookup lawN Tryz.underlying108 (zeroS W) (zd := .nil) (zp := []) rfl (kl := .int .i64 s) (key := .int .i64 s) (keyI s h0 h1)
 rw [he] at hv
 rw [hr]
 cases o with
 | none => rw [slR_nil hv]; rfl
 | some x =>
  obtain ⟨b, n, c⟩ := x
  rw [slR_of hv]
  rfl
end Go.Proofs.YtendlmdmbkcdnaaGreatDoor.tp
namespace Go.Proofs.YtendlmdmbkcdnaaGreatDoor.tp
open Go.RowKit Go.Maps Go.WideMaps oc rc gh dk sg ma hi kd
open Go.Lib (hid)
set_option maxRecDepth 100000
set_option maxHeartbeats 4000000 in
theorem bytes_any (w : World) (t : Nat) (c : Tc) (h : Blk w t 110 c.cells) (n : Nat) (D : DataW Unit) (hm : w.ownsMap Tryz.prog 3 slR c.cached n D) (s : Int) (h0 : -9223372036854775808 <= s) (h1 : s <= 9223372036854775807) (o : Option (Nat × Nat × Nat)) (he : D.atKey (.int .i64 s) .nil = slO o) (A : Option Addr) (cp : Nat) (l : List Pl) (ho : slV o = .slice A l.length cp) (hl : l.length <= 65536) (hp : PlsAt w A l) :
  Calls Tryz.prog 45 #[.pointer (some ⟨t, 0, none⟩), .int .i64 s] w fun e w' => (∃ x : Int, e = .returned (.int .i64 x)) /\ Below w.heap.size w w' := by
 have hlk := look_row hm h0 h1 he
 rw [ho] at hlk
 have c20 : w.cell? ⟨t, 20, none⟩ = some (.map (some c.cached)) := (h.cell 20).trans rfl
 have HP := hid hp
 have HL := hid hl
 clear h hm he ho hp hl
 go_enter Tryz.func45, Tryz.ntmps45
 go_wp2_with fail
 clear hlk c20
 go_loopw [5, 15] (fun x i wr => ∃ (k : Nat) (u : Int), k <= l.length /\ i = .int .i64 (k : Int) /\ x = .int .i64 u /\ Hid (Below w.heap.size w wr)) (fun _ i _ => l.length - (intOf i).toNat)
 case atStart => exact ⟨0, 0, Nat.zero_le _, rfl, rfl, hid (Below.refl _ _)⟩
 case round =>
  obtain ⟨k, u, hk, rfl, rfl, HB⟩ := hrel
  by_cases hlt : k < l.length
  ·obtain ⟨x, hx⟩ : ∃ x, l[k]? = some x := ⟨_, List.getElem?_eq_getElem hlt⟩
   obtain ⟨b, rfl, hbl, hc⟩ := (HP.out.below HB.out) (by omega)
   have e0 : wr.cell? ⟨b, k * 9, none⟩ = some (.int .i64 x.r.kind) := hc k x 0 _ hx rfl
   have e1 := hc k x 1 _ hx rfl
   have e2 := hc k x 2 _ hx rfl
   have e3 := hc k x 3 _ hx rfl
   have e4 := hc k x 4 _ hx rfl
   have e5 := hc k x 5 _ hx rfl
   have e6 := hc k x 6 _ hx rfl
   have e7 := hc k x 7 _ hx rfl
   have e8 := hc k x 8 _ hx rfl
   obtain ⟨⟨x0, x1, x2, x3, x4, x5, x6⟩, x7, x8⟩ := x
   dsimp only at e0 e1 e2 e3 e4 e5 e6 e7 e8
   have i9 : IntKind.i64.wrap ((k : Int) + 1) = (k : Int) + 1 := by have := HL.out; rw [IntKind.wrap_i64]; omega
   have HBA : Hid (∀ y, Below w.heap.size w (wr.alloc y)) := hid (fun y => HB.out.alloc HB.out.size y)
   clear hx hc
   go_wp2_with fail
   go_roundw
   case rel => exact ⟨k + 1, _, by omega, by go_num, rfl, HBA.out _⟩
   case measure => simp [intOf]; omega
  ·obtain rfl : k = l.length := by omega
   go_wp2_with fail
   go_ret
   exact ⟨⟨_, rfl⟩, HB.out⟩
theorem remove_nil (w : World) (d : Nat) (id lim ret : Int) :
  Calls Tryz.prog 39 #[.agg (placeC d id lim ret), .slice none 0 0] w fun e w' => e = .returned (.int .i64 0) /\ Below w.heap.size w w' := by
 unfold placeC
 have HBA : Hid (∀ y, Below w.heap.size w (w.alloc y)) := hid (fun y => (Below.refl _ _).alloc (Nat.le_refl _) y)
 go_enter Tryz.func39, Tryz.ntmps39
 go_wp2_with fail
 go_loop [10] (fun x => x = .int .i64 0) (fun _ => 0)
 case atStart => rfl
 case round =>
  subst hrel
  go_wp2_with fail
  go_ret
  exact ⟨rfl, HBA.out _⟩
def rcC (r : Rc) : List Value := [.int .i64 r.kind, .int .i64 r.off, .int .i64 r.time, .int .i64 r.pid, .int .i64 r.seq, .string r.key, .string r.val]
theorem infoR : (Tryz.prog.info? 47).map (fun i => (i.zero, i.size, i.bytes)) = some (some (.agg #[.int .i64 0, .int .i64 0, .int .i64 0, .int .i64 0, .int .i64 0, .string ⟨#[]⟩, .string ⟨#[]⟩]), 7, 72) := by kernel_rfl
set_option maxHeartbeats 4000000 in
theorem rec1_any (w : World) (B bq : Nat) (A : Option Addr) (c : Nat) (rs : List Rc) (x : Pl) (hb : Blk w bq 31 #[.slice A rs.length c]) (hr : w.ownsRow B 47 7 (.slice A rs.length c) rs.length (rs.flatMap rcC)) (hne : bq < B) (hB : B <= w.heap.size) (hl : rs.length <= 1073741824) :
  Calls Tryz.prog 57 #[.agg (plC x).toArray, .pointer (some ⟨bq, 0, none⟩)] w fun e w' => e = .returned (.bool true) /\ ∃ A' c', Blk w' bq 31 #[.slice A' (rs.length + 1) c'] /\ w'.ownsRow B 47 7 (.slice A' (rs.length + 1) c') (rs.length + 1) (rs.flatMap rcC ++ rcC x.r) /\ Below bq w w' := by
 obtain ⟨i0, hi, hz0, hz1, hz2⟩ := info_parts infoR
 obtain ⟨⟨x0, x1, x2, x3, x4, x5, x6⟩, x7, x8⟩ := x
 dsimp only [plC, rcC]
 have HB := hid hb
 have HR := hid hr
 have HN : Hid (bq < B /\ B <= w.heap.size /\ bq < w.heap.size) := hid ⟨hne, hB, hb.lt⟩
 have c0 : ∀ y, (w.alloc y).cell? ⟨bq, 0, none⟩ = some (.slice A rs.length c) := fun y => ((hb.alloc y).cell 0).trans rfl
 have HMX : Hid (rs.length + 1 <= maxLen) := hid (by unfold maxLen; omega)
 have HLM : Hid ((rs.length + 1) * 72 <= 140737488355328) := hid (by omega)
 clear hb hr hne hB hl
 go_enter Tryz.func57, Tryz.ntmps57
 go_wp2_with (first
  | (at_builtin; go_must (refine wpList_append_own_at _ rfl _ _ 31 rfl B 47 i0 _ 7 72 Tryz.underlying31 hi hz0 hz1 hz2 rfl (by decide) (.slice A rs.length c) rs.length _ rfl ((HR.out.alloc _).alloc _) ⟨w.heap.size + 1, 0, none⟩ 1 1 [.int .i64 x0, .int .i64 x1, .int .i64 x2, .int .i64 x3, .int .i64 x4, .string x5, .string x6] rfl rfl (by have := Go.Proofs.YtendlmdmbkcdnaaGreatDoor.dd.cells_new (w.alloc (.cells #[.int .i64 x0, .int .i64 x1, .int .i64 x2, .int .i64 x3, .int .i64 x4, .string x5, .string x6, .int .i64 x7, .int .i64 x8] 86)) 47 [.int .i64 x0, .int .i64 x1, .int .i64 x2, .int .i64 x3, .int .i64 x4, .string x5, .string x6]; rw [World.size_alloc] at this; exact this) (by simp [Value.oneCell']) HMX.out HLM.out (Nat.le_trans HN.out.2.1 (by simp; omega)) ?_; intro v3 w3 hown3 hgr3 _ hloc3; obtain ⟨A3, c3, rfl⟩ := own_slice hown3; have HO3 := hid hown3; have HG3 := hid hgr3; have HT3 : Hid (Blk w3 bq 31 #[.slice A rs.length c]) := hid (((HB.out.alloc _).alloc _).grown hgr3 (fun e => by have := (HR.out.lt _ e.symm).1; have := HN.out.1; omega)); have f2 : w3.frozen? ⟨bq, 0, none⟩ = false := HT3.out.frozen 0; have d3 : w3.cell? ⟨bq, 0, none⟩ = some (.slice A rs.length c) := (HT3.out.cell 0).trans rfl; clear hown3 hgr3 hloc3))
  | fail)
 go_ret
 exact ⟨rfl, A3, c3, HT3.out.set_ 0 _, own_set (g := bq) (i := 0) HO3.out (fun e => by have := (HO3.out.lt _ e).1; have := HN.out.1; omega) _, ((((Below.refl bq w).alloc (Nat.le_of_lt HN.out.2.2) _).alloc (Nat.le_trans (Nat.le_of_lt HN.out.2.2) (by simp)) _).grown HG3.out (Nat.le_trans (Nat.le_of_lt HN.out.2.2) (by simp; omega)) (fun k hk => by have := (HR.out.lt k hk).1; have := HN.out.1; omega)).setCell (by exact Nat.le_refl _) _⟩
end Go.Proofs.YtendlmdmbkcdnaaGreatDoor.tp
