/-
  Texts of the proof joined by a program: Kdb.
-/
import Derived.Test.YtendlmdmbkcdnaaGreatDoorVg
import Derived.Deep.RegionHeld3
import Derived.BigQuiet
set_option linter.unusedSimpArgs false
set_option linter.unusedVariables false
namespace Go.Proofs.YtendlmdmbkcdnaaGreatDoor.kd
open Go.RowKit oc
open Go.Lib (hid)
set_option maxRecDepth 100000
def heavyB (a b : KT) : Bool := decide (3 * ((b.count : Int) + 1) < (a.count : Int) + 1)
def innerB (i o : KT) : Bool := decide (2 * ((o.count : Int) + 1) <= (i.count : Int) + 1)
def evenT (k : ByteArray) (e : KE) (l r : KT) : KT :=
 if heavyB r l then
  match r with
  | .node rk re rl rr =>
   if innerB rl rr then
    match rl with
    | .node mk me ml mr => .node mk me (.node k e l ml) (.node rk re mr rr)
    | .nil => .nil
   else .node rk re (.node k e l rl) rr
  | .nil => .nil
 else if heavyB l r then
  match l with
  | .node lk le ll lr =>
   if innerB lr ll then
    match lr with
    | .node mk me ml mr => .node mk me (.node lk le ll ml) (.node k e mr r)
    | .nil => .nil
   else .node lk le ll (.node k e lr r)
  | .nil => .nil
 else .node k e l r
theorem evenT_count (k : ByteArray) (e : KE) (l r : KT) : (evenT k e l r).count = l.count + r.count + 1 := by
 unfold evenT
 split
 ·rename_i h
  simp only [heavyB, decide_eq_true_eq] at h
  cases r with
  | nil => simp only [KT.count] at h; omega
  | node rk re rl rr =>
   dsimp only
   split
   ·rename_i h2
    simp only [innerB, decide_eq_true_eq] at h2
    cases rl with
    | nil => simp only [KT.count] at h2; omega
    | node mk me ml mr => simp only [KT.count]; omega
   ·simp only [KT.count]; omega
 ·split
  ·rename_i h
   simp only [heavyB, decide_eq_true_eq] at h
   cases l with
   | nil => simp only [KT.count] at h; omega
   | node rk re rl rr =>
    dsimp only
    split
    ·rename_i h2
     simp only [innerB, decide_eq_true_eq] at h2
     cases rr with
     | nil => simp only [KT.count] at h2; omega
     | node mk me ml mr => simp only [KT.count]; omega
    ·simp only [KT.count]; omega
  ·rfl
theorem blt {w1 W W' : World} (h : Below w1.heap.size w1 W) (k : Below W.heap.size W W') : Below w1.heap.size w1 W' := h.trans (k.mono h.size)
theorem heavy_is (w : World) (F : Nat -> Prop) (a b : KT) (x y : Option Addr) (pa' pb' : Option Nat) (hx : pv pa' = .pointer x) (hy : pv pb' = .pointer y) (ha : TreeAt w F a pa') (hb : TreeAt w F b pb') (na : a.count <= 1099511627776) (nb : b.count <= 1099511627776) (v : Bool) (hv : heavyB a b = v) :
  Calls Tryz.prog 274 #[.pointer x, .pointer y] w fun e w' => e = .returned (.bool v) /\ w' = w := by
 rw [<- hx, <- hy, <- hv]
 exact heavy_any w F a b pa' pb' ha hb na nb
theorem inner_is (w : World) (F : Nat -> Prop) (a b : KT) (x y : Option Addr) (pa' pb' : Option Nat) (hx : pv pa' = .pointer x) (hy : pv pb' = .pointer y) (ha : TreeAt w F a pa') (hb : TreeAt w F b pb') (na : a.count <= 1099511627776) (nb : b.count <= 1099511627776) (v : Bool) (hv : innerB a b = v) :
  Calls Tryz.prog 275 #[.pointer x, .pointer y] w fun e w' => e = .returned (.bool v) /\ w' = w := by
 rw [<- hx, <- hy, <- hv]
 exact inner_any w F a b pa' pb' ha hb na nb
theorem join_is (w : World) (F : Nat -> Prop) (hF : ∀ i, w.heap.size <= i -> F i) (k : ByteArray) (e : KE) (l r : KT) (x y : Option Addr) (pl pr : Option Nat) (hx : pv pl = .pointer x) (hy : pv pr = .pointer y) (hl : TreeAt w F l pl) (hr : TreeAt w F r pr) (hn : l.count + r.count + 1 <= 1099511627776) (ce : Array Value) (he : e.cells = ce) :
  Calls Tryz.prog 231 #[.string k, .agg ce, .pointer x, .pointer y] w fun z w' => ∃ g, z = .returned (.pointer (some ⟨g, 0, none⟩)) /\ TreeAt w' F (.node k e l r) (some g) /\ Below w.heap.size w w' := by
 rw [<- hx, <- hy, <- he]
 exact join_any w F hF k e l r pl pr hl hr hn
def EvenOut (w : World) (F : Nat -> Prop) (T : KT) (x : Ending) (w' : World) : Prop := ∃ g, x = .returned (.pointer (some ⟨g, 0, none⟩)) /\ TreeAt w' F T (some g) /\ Below w.heap.size w w'
set_option maxHeartbeats 8000000 in
theorem even_plain (w : World) (F : Nat -> Prop) (hF : ∀ i, w.heap.size <= i -> F i) (k : ByteArray) (e : KE) (l r : KT) (pl pr : Option Nat) (hl : TreeAt w F l pl) (hr : TreeAt w F r pr) (hn : KT.count l + KT.count r + 1 <= 1099511627776) (h1 : heavyB r l = false) (h2 : heavyB l r = false) :
  Calls Tryz.prog 232 #[.string k, .agg e.cells, pv pl, pv pr] w (EvenOut w F (.node k e l r)) := by
 obtain ⟨a1, a2, a3, a4, a5, a6⟩ := e
 obtain ⟨vl, hl2⟩ : ∃ x, pv pl = .pointer x := ⟨_, rfl⟩
 obtain ⟨vr, hr2⟩ : ∃ x, pv pr = .pointer x := ⟨_, rfl⟩
 have HL := hid hl
 have HR := hid hr
 have HF := hid hF
 have HN := hid hn
 have H1 := hid h1
 have H2 := hid h2
 clear h1 h2
 rw [hl2, hr2]
 clear hl hr hF hn
 simp only [KE.cells]
 go_enter Tryz.func232, Tryz.ntmps232
 go_wp2_with fail
 obtain ⟨w0, hw0⟩ : ∃ x, w.alloc (.cells #[.int .i64 a1, .int .i64 a2, .int .i64 a3, .int .i64 a4, .int .i64 a5, .bool a6] 117) = x := ⟨_, rfl⟩
 have HB0 : Hid (Below w.heap.size w w0) := by rw [<- hw0]; exact hid ((Below.refl _ _).alloc (Nat.le_refl _) _)
 have HK0 : Hid (Blk w0 w.heap.size 117 #[.int .i64 a1, .int .i64 a2, .int .i64 a3, .int .i64 a4, .int .i64 a5, .bool a6]) := by rw [<- hw0]; exact hid (Blk.new w _ _)
 have HL0 := hid (HL.out.below HB0.out)
 have HR0 := hid (HR.out.below HB0.out)
 simp only [hw0]
 clear hw0
 have q1 : QC Tryz.prog w0 274 #[.pointer vr, .pointer vl] (.bool false) := same_regrown (fun W hb => heavy_is W F r l vr vl pr pl hr2 hl2 (HR0.out.below hb) (HL0.out.below hb) (by have := HN.out; (try simp only [KT.count] at this); (try simp only [KT.count]); omega) (by have := HN.out; (try simp only [KT.count] at this); (try simp only [KT.count]); omega) false H1.out)
 refine wp_region_quiet_below (by kernel_rfl) (by kernel_rfl) ?_
 repeat (first | go_big_quiet_skip | (go_big_quiet_want; go_big_quiet_op; first | go_big_quiet_on | (apply Exists.intro; refine ⟨fun _ => ?_, ?_⟩; · (first | with_reducible exact q1 _ _)); go_big_quiet_on))
 refine wpQuiet_nil ?_
 intro w1 hw'
 obtain ⟨⟨dq, osq⟩, hw''⟩ := hw'
 have HB1 : Hid (Below w0.heap.size w0 w1) := by rw [hw'']; exact (below_regrown w0 dq osq)
 clear hw'' q1
 have HL1 := hid (HL0.out.below HB1.out)
 have HR1 := hid (HR0.out.below HB1.out)
 go_wp2_with (first
  | (go_at_call 274; refine (heavy_is w1 F r l vr vl pr pl hr2 hl2 HR1.out HL1.out (by have := HN.out; (try simp only [KT.count] at this); (try simp only [KT.count]); omega) (by have := HN.out; (try simp only [KT.count] at this); (try simp only [KT.count]); omega) false H1.out).mono ?_; rintro e w9 ⟨rfl, hw9⟩; rw [hw9]; clear hw9)
  | fail)
 have q1 : QC Tryz.prog w1 274 #[.pointer vl, .pointer vr] (.bool false) := same_regrown (fun W hb => heavy_is W F l r vl vr pl pr hl2 hr2 (HL1.out.below hb) (HR1.out.below hb) (by have := HN.out; (try simp only [KT.count] at this); (try simp only [KT.count]); omega) (by have := HN.out; (try simp only [KT.count] at this); (try simp only [KT.count]); omega) false H2.out)
 refine wp_region_quiet_below (by kernel_rfl) (by kernel_rfl) ?_
 repeat (first | go_big_quiet_skip | (go_big_quiet_want; go_big_quiet_op; first | go_big_quiet_on | (apply Exists.intro; refine ⟨fun _ => ?_, ?_⟩; · (first | with_reducible exact q1 _ _)); go_big_quiet_on))
 refine wpQuiet_nil ?_
 intro w2 hw'
 obtain ⟨⟨dq, osq⟩, hw''⟩ := hw'
 have HB2 : Hid (Below w0.heap.size w0 w2) := by rw [hw'']; exact HB1.out.trans ((below_regrown w1 dq osq).mono HB1.out.size)
 clear hw'' q1
 have HL2 := hid (HL0.out.below HB2.out)
 have HR2 := hid (HR0.out.below HB2.out)
 have c0 : w2.cell? ⟨w.heap.size, 0, none⟩ = some (.int .i64 a1) := ((HK0.out.below HB2.out HK0.out.lt).cell 0).trans rfl
 have c1 : w2.cell? ⟨w.heap.size, 1, none⟩ = some (.int .i64 a2) := ((HK0.out.below HB2.out HK0.out.lt).cell 1).trans rfl
 have c2 : w2.cell? ⟨w.heap.size, 2, none⟩ = some (.int .i64 a3) := ((HK0.out.below HB2.out HK0.out.lt).cell 2).trans rfl
 have c3 : w2.cell? ⟨w.heap.size, 3, none⟩ = some (.int .i64 a4) := ((HK0.out.below HB2.out HK0.out.lt).cell 3).trans rfl
 have c4 : w2.cell? ⟨w.heap.size, 4, none⟩ = some (.int .i64 a5) := ((HK0.out.below HB2.out HK0.out.lt).cell 4).trans rfl
 have c5 : w2.cell? ⟨w.heap.size, 5, none⟩ = some (.bool a6) := ((HK0.out.below HB2.out HK0.out.lt).cell 5).trans rfl
 have HJ := hid (join_is w2 F (fun i hi => HF.out i (Nat.le_trans (Nat.le_trans HB0.out.size HB2.out.size) hi)) k ⟨a1, a2, a3, a4, a5, a6⟩ l r vl vr pl pr hl2 hr2 HL2.out HR2.out HN.out _ rfl)
 dsimp only [KE.cells] at HJ
 go_wp2_with (first
  | (go_at_call 274; refine (heavy_is w2 F l r vl vr pl pr hl2 hr2 HL2.out HR2.out (by have := HN.out; (try simp only [KT.count] at this); (try simp only [KT.count]); omega) (by have := HN.out; (try simp only [KT.count] at this); (try simp only [KT.count]); omega) false H2.out).mono ?_; rintro e w9 ⟨rfl, hw9⟩; rw [hw9]; clear hw9)
  | (go_at_call 231; refine HJ.out.mono ?_; rintro e w3 ⟨g, rfl, hT, hb⟩; have HT := hid hT; have HB3 := hid hb; clear hT hb)
  | fail)
 go_ret
 exact ⟨g, rfl, HT.out, HB0.out.trans ((HB2.out.trans (HB3.out.mono HB2.out.size)).mono HB0.out.size)⟩
set_option maxHeartbeats 8000000 in
theorem even_r1 (w : World) (F : Nat -> Prop) (hF : ∀ i, w.heap.size <= i -> F i) (k : ByteArray) (e : KE) (l : KT) (rk : ByteArray) (re : KE) (rl rr : KT) (pl pr : Option Nat) (hl : TreeAt w F l pl) (hr : TreeAt w F (.node rk re rl rr) pr) (hn : KT.count l + KT.count (.node rk re rl rr) + 1 <= 1099511627776) (h1 : heavyB (.node rk re rl rr) l = true) (h2 : innerB rl rr = false) :
  Calls Tryz.prog 232 #[.string k, .agg e.cells, pv pl, pv pr] w (EvenOut w F (.node rk re (.node k e l rl) rr)) := by
 have HL := hid hl
 have HR := hid hr
 obtain ⟨b1, b2, b3, b4, b5, b6⟩ := re
 have hr' := hr
 obtain ⟨g, p3, p4, hpg, -, hBg, hp3, hp4⟩ := hr'
 subst hpg
 obtain ⟨v3, h3⟩ : ∃ x, pv p3 = .pointer x := ⟨_, rfl⟩
 obtain ⟨v4, h4⟩ : ∃ x, pv p4 = .pointer x := ⟨_, rfl⟩
 have HBg := hid hBg
 have Hp3 := hid hp3
 have Hp4 := hid hp4
 clear hBg hp3 hp4
 obtain ⟨a1, a2, a3, a4, a5, a6⟩ := e
 obtain ⟨vl, hl2⟩ : ∃ x, pv pl = .pointer x := ⟨_, rfl⟩
 have hr2 : pv (some g) = .pointer (some ⟨g, 0, none⟩) := rfl
 have HF := hid hF
 have HN := hid hn
 have H1 := hid h1
 have H2 := hid h2
 rw [hl2, hr2]
 clear hl hr hF hn h1 h2
 simp only [KE.cells]
 go_enter Tryz.func232, Tryz.ntmps232
 go_wp2_with fail
 obtain ⟨w0, hw0⟩ : ∃ x, w.alloc (.cells #[.int .i64 a1, .int .i64 a2, .int .i64 a3, .int .i64 a4, .int .i64 a5, .bool a6] 117) = x := ⟨_, rfl⟩
 have HB0 : Hid (Below w.heap.size w w0) := by rw [<- hw0]; exact hid ((Below.refl _ _).alloc (Nat.le_refl _) _)
 have HK0 : Hid (Blk w0 w.heap.size 117 #[.int .i64 a1, .int .i64 a2, .int .i64 a3, .int .i64 a4, .int .i64 a5, .bool a6]) := by rw [<- hw0]; exact hid (Blk.new w _ _)
 have HL0 := hid (HL.out.below HB0.out)
 have HR0 := hid (HR.out.below HB0.out)
 simp only [hw0]
 clear hw0
 have q1 : QC Tryz.prog w0 274 #[.pointer (some ⟨g, 0, none⟩), .pointer vl] (.bool true) := same_regrown (fun W hb => heavy_is W F (.node rk ⟨b1, b2, b3, b4, b5, b6⟩ rl rr) l (some ⟨g, 0, none⟩) vl (some g) pl hr2 hl2 (HR0.out.below hb) (HL0.out.below hb) (by have := HN.out; (try simp only [KT.count] at this); (try simp only [KT.count]); omega) (by have := HN.out; (try simp only [KT.count] at this); (try simp only [KT.count]); omega) true H1.out)
 have q2 : QC Tryz.prog w0 275 #[.pointer v3, .pointer v4] (.bool false) := same_regrown (fun W hb => inner_is W F rl rr v3 v4 p3 p4 h3 h4 (Hp3.out.below (HB0.out.trans (hb.mono HB0.out.size))) (Hp4.out.below (HB0.out.trans (hb.mono HB0.out.size))) (by have := HN.out; (try simp only [KT.count] at this); (try simp only [KT.count]); omega) (by have := HN.out; (try simp only [KT.count] at this); (try simp only [KT.count]); omega) false H2.out)
 have k8 := fun d os => cell_regrown (show w0.cell? ⟨g, 8, none⟩ = some (.pointer v3) from ((HBg.out.below HB0.out HBg.out.lt).cell 8).trans (congrArg some h3)) d os
 have k9 := fun d os => cell_regrown (show w0.cell? ⟨g, 9, none⟩ = some (.pointer v4) from ((HBg.out.below HB0.out HBg.out.lt).cell 9).trans (congrArg some h4)) d os
 refine wp_region_quiet_below (by kernel_rfl) (by kernel_rfl) ?_
 repeat (first | go_big_quiet_skip | (go_big_quiet_want; go_big_quiet_op; first | go_big_quiet_on | (apply Exists.intro; refine ⟨fun _ => ?_, ?_⟩; · (first | with_reducible exact q1 _ _ | with_reducible exact q2 _ _)); go_big_quiet_on))
 refine wpQuiet_nil ?_
 intro w1 hw'
 obtain ⟨⟨dq, osq⟩, hw''⟩ := hw'
 have HB1 : Hid (Below w0.heap.size w0 w1) := by rw [hw'']; exact (below_regrown w0 dq osq)
 clear hw'' q1 q2 k8 k9
 have HL1 := hid (HL0.out.below HB1.out)
 have HR1 := hid (HR0.out.below HB1.out)
 go_wp2_with fail
 have e0 : ∀ w', Below w1.heap.size w1 w' -> w'.cell? ⟨w.heap.size, 0, none⟩ = some (.int .i64 a1) := fun w' hb => ((HK0.out.below (HB1.out.trans (hb.mono HB1.out.size)) HK0.out.lt).cell 0).trans rfl
 have e1 : ∀ w', Below w1.heap.size w1 w' -> w'.cell? ⟨w.heap.size, 1, none⟩ = some (.int .i64 a2) := fun w' hb => ((HK0.out.below (HB1.out.trans (hb.mono HB1.out.size)) HK0.out.lt).cell 1).trans rfl
 have e2 : ∀ w', Below w1.heap.size w1 w' -> w'.cell? ⟨w.heap.size, 2, none⟩ = some (.int .i64 a3) := fun w' hb => ((HK0.out.below (HB1.out.trans (hb.mono HB1.out.size)) HK0.out.lt).cell 2).trans rfl
 have e3 : ∀ w', Below w1.heap.size w1 w' -> w'.cell? ⟨w.heap.size, 3, none⟩ = some (.int .i64 a4) := fun w' hb => ((HK0.out.below (HB1.out.trans (hb.mono HB1.out.size)) HK0.out.lt).cell 3).trans rfl
 have e4 : ∀ w', Below w1.heap.size w1 w' -> w'.cell? ⟨w.heap.size, 4, none⟩ = some (.int .i64 a5) := fun w' hb => ((HK0.out.below (HB1.out.trans (hb.mono HB1.out.size)) HK0.out.lt).cell 4).trans rfl
 have e5 : ∀ w', Below w1.heap.size w1 w' -> w'.cell? ⟨w.heap.size, 5, none⟩ = some (.bool a6) := fun w' hb => ((HK0.out.below (HB1.out.trans (hb.mono HB1.out.size)) HK0.out.lt).cell 5).trans rfl
 have f0 : ∀ w', Below w1.heap.size w1 w' -> w'.cell? ⟨g, 0, none⟩ = some (.string rk) := fun w' hb => ((HBg.out.below (HB0.out.trans ((HB1.out.trans (hb.mono HB1.out.size)).mono HB0.out.size)) HBg.out.lt).cell 0).trans rfl
 have f1 : ∀ w', Below w1.heap.size w1 w' -> w'.cell? ⟨g, 1, none⟩ = some (.int .i64 b1) := fun w' hb => ((HBg.out.below (HB0.out.trans ((HB1.out.trans (hb.mono HB1.out.size)).mono HB0.out.size)) HBg.out.lt).cell 1).trans rfl
 have f2 : ∀ w', Below w1.heap.size w1 w' -> w'.cell? ⟨g, 2, none⟩ = some (.int .i64 b2) := fun w' hb => ((HBg.out.below (HB0.out.trans ((HB1.out.trans (hb.mono HB1.out.size)).mono HB0.out.size)) HBg.out.lt).cell 2).trans rfl
 have f3 : ∀ w', Below w1.heap.size w1 w' -> w'.cell? ⟨g, 3, none⟩ = some (.int .i64 b3) := fun w' hb => ((HBg.out.below (HB0.out.trans ((HB1.out.trans (hb.mono HB1.out.size)).mono HB0.out.size)) HBg.out.lt).cell 3).trans rfl
 have f4 : ∀ w', Below w1.heap.size w1 w' -> w'.cell? ⟨g, 4, none⟩ = some (.int .i64 b4) := fun w' hb => ((HBg.out.below (HB0.out.trans ((HB1.out.trans (hb.mono HB1.out.size)).mono HB0.out.size)) HBg.out.lt).cell 4).trans rfl
 have f5 : ∀ w', Below w1.heap.size w1 w' -> w'.cell? ⟨g, 5, none⟩ = some (.int .i64 b5) := fun w' hb => ((HBg.out.below (HB0.out.trans ((HB1.out.trans (hb.mono HB1.out.size)).mono HB0.out.size)) HBg.out.lt).cell 5).trans rfl
 have f6 : ∀ w', Below w1.heap.size w1 w' -> w'.cell? ⟨g, 6, none⟩ = some (.bool b6) := fun w' hb => ((HBg.out.below (HB0.out.trans ((HB1.out.trans (hb.mono HB1.out.size)).mono HB0.out.size)) HBg.out.lt).cell 6).trans rfl
 have f8 : ∀ w', Below w1.heap.size w1 w' -> w'.cell? ⟨g, 8, none⟩ = some (.pointer v3) := fun w' hb => ((HBg.out.below (HB0.out.trans ((HB1.out.trans (hb.mono HB1.out.size)).mono HB0.out.size)) HBg.out.lt).cell 8).trans (congrArg some h3)
 have f9 : ∀ w', Below w1.heap.size w1 w' -> w'.cell? ⟨g, 9, none⟩ = some (.pointer v4) := fun w' hb => ((HBg.out.below (HB0.out.trans ((HB1.out.trans (hb.mono HB1.out.size)).mono HB0.out.size)) HBg.out.lt).cell 9).trans (congrArg some h4)
 have JA : ∀ W, Below w1.heap.size w1 W -> Calls Tryz.prog 231 #[.string k, .agg #[.int .i64 a1, .int .i64 a2, .int .i64 a3, .int .i64 a4, .int .i64 a5, .bool a6], .pointer vl, .pointer v3] W fun z w' => ∃ g, z = .returned (.pointer (some ⟨g, 0, none⟩)) /\ TreeAt w' F (.node k ⟨a1, a2, a3, a4, a5, a6⟩ l rl) (some g) /\ Below W.heap.size W w' :=
  fun W hb => by
   have hs := Nat.le_trans (Nat.le_trans HB0.out.size HB1.out.size) hb.size
   exact join_is W F (fun i hi => HF.out i (Nat.le_trans hs hi)) k ⟨a1, a2, a3, a4, a5, a6⟩ l rl vl v3 pl p3 hl2 h3 (HL1.out.below hb) (Hp3.out.below (HB0.out.trans ((HB1.out.trans (hb.mono HB1.out.size)).mono HB0.out.size))) (by have := HN.out; (try simp only [KT.count] at this); (try simp only [KT.count]); omega) _ rfl
 have JB : ∀ W ga, Below w1.heap.size w1 W -> TreeAt W F (.node k ⟨a1, a2, a3, a4, a5, a6⟩ l rl) (some ga) -> Calls Tryz.prog 231 #[.string rk, .agg #[.int .i64 b1, .int .i64 b2, .int .i64 b3, .int .i64 b4, .int .i64 b5, .bool b6], .pointer (some ⟨ga, 0, none⟩), .pointer v4] W fun z w' => ∃ g, z = .returned (.pointer (some ⟨g, 0, none⟩)) /\ TreeAt w' F (.node rk ⟨b1, b2, b3, b4, b5, b6⟩ (.node k ⟨a1, a2, a3, a4, a5, a6⟩ l rl) rr) (some g) /\ Below W.heap.size W w' :=
  fun W ga hb hT => by
   have hs := Nat.le_trans (Nat.le_trans HB0.out.size HB1.out.size) hb.size
   exact join_is W F (fun i hi => HF.out i (Nat.le_trans hs hi)) rk ⟨b1, b2, b3, b4, b5, b6⟩ (.node k ⟨a1, a2, a3, a4, a5, a6⟩ l rl) rr (some ⟨ga, 0, none⟩) v4 (some ga) p4 rfl h4 hT (Hp4.out.below (HB0.out.trans ((HB1.out.trans (hb.mono HB1.out.size)).mono HB0.out.size))) (by have := HN.out; (try simp only [KT.count] at this); (try simp only [KT.count]); omega) _ rfl
 go_region_held3 (fun w' => Below w1.heap.size w1 w') (first | assumption | exact Below.drew (Below.refl _ _) | exact (Below.refl _ _)) (first
  | (go_at_call 231; with_reducible refine (JA _ (by assumption)).mono ?_; rintro e WA ⟨gA, rfl, hTA, hbA0⟩; have hbA : Below w1.heap.size w1 WA := blt (by assumption) hbA0)
  | (go_at_call 231; with_reducible refine (JB _ gA hbA hTA).mono ?_; rintro e WB ⟨gB, rfl, hTB, hbB0⟩; have hbB : Below w1.heap.size w1 WB := blt hbA hbB0)
  | fail)
 all_goals
  go_wp2_with fail
  go_ret
  exact ⟨gB, rfl, hTB, HB0.out.trans ((HB1.out.trans (hbB.mono HB1.out.size)).mono HB0.out.size)⟩
set_option maxHeartbeats 8000000 in
theorem even_l1 (w : World) (F : Nat -> Prop) (hF : ∀ i, w.heap.size <= i -> F i) (k : ByteArray) (e : KE) (r : KT) (rk : ByteArray) (re : KE) (rl rr : KT) (pl pr : Option Nat) (hl : TreeAt w F (.node rk re rl rr) pl) (hr : TreeAt w F r pr) (hn : KT.count (.node rk re rl rr) + KT.count r + 1 <= 1099511627776) (h0 : heavyB r (.node rk re rl rr) = false) (h1 : heavyB (.node rk re rl rr) r = true) (h2 : innerB rr rl = false) :
  Calls Tryz.prog 232 #[.string k, .agg e.cells, pv pl, pv pr] w (EvenOut w F (.node rk re rl (.node k e rr r))) := by
 have HL := hid hl
 have HR := hid hr
 obtain ⟨b1, b2, b3, b4, b5, b6⟩ := re
 have hl' := hl
 obtain ⟨g, p3, p4, hpg, -, hBg, hp3, hp4⟩ := hl'
 subst hpg
 obtain ⟨v3, h3⟩ : ∃ x, pv p3 = .pointer x := ⟨_, rfl⟩
 obtain ⟨v4, h4⟩ : ∃ x, pv p4 = .pointer x := ⟨_, rfl⟩
 have HBg := hid hBg
 have Hp3 := hid hp3
 have Hp4 := hid hp4
 clear hBg hp3 hp4
 obtain ⟨a1, a2, a3, a4, a5, a6⟩ := e
 obtain ⟨vr, hr2⟩ : ∃ x, pv pr = .pointer x := ⟨_, rfl⟩
 have hl2 : pv (some g) = .pointer (some ⟨g, 0, none⟩) := rfl
 have HF := hid hF
 have HN := hid hn
 have H1 := hid h1
 have H2 := hid h2
 have H0 := hid h0
 rw [hl2, hr2]
 clear hl hr hF hn h1 h2 h0
 simp only [KE.cells]
 go_enter Tryz.func232, Tryz.ntmps232
 go_wp2_with fail
 obtain ⟨w0, hw0⟩ : ∃ x, w.alloc (.cells #[.int .i64 a1, .int .i64 a2, .int .i64 a3, .int .i64 a4, .int .i64 a5, .bool a6] 117) = x := ⟨_, rfl⟩
 have HB0 : Hid (Below w.heap.size w w0) := by rw [<- hw0]; exact hid ((Below.refl _ _).alloc (Nat.le_refl _) _)
 have HK0 : Hid (Blk w0 w.heap.size 117 #[.int .i64 a1, .int .i64 a2, .int .i64 a3, .int .i64 a4, .int .i64 a5, .bool a6]) := by rw [<- hw0]; exact hid (Blk.new w _ _)
 have HL0 := hid (HL.out.below HB0.out)
 have HR0 := hid (HR.out.below HB0.out)
 simp only [hw0]
 clear hw0
 have q1 : QC Tryz.prog w0 274 #[.pointer vr, .pointer (some ⟨g, 0, none⟩)] (.bool false) := same_regrown (fun W hb => heavy_is W F r (.node rk ⟨b1, b2, b3, b4, b5, b6⟩ rl rr) vr (some ⟨g, 0, none⟩) pr (some g) hr2 hl2 (HR0.out.below hb) (HL0.out.below hb) (by have := HN.out; (try simp only [KT.count] at this); (try simp only [KT.count]); omega) (by have := HN.out; (try simp only [KT.count] at this); (try simp only [KT.count]); omega) false H0.out)
 refine wp_region_quiet_below (by kernel_rfl) (by kernel_rfl) ?_
 repeat (first | go_big_quiet_skip | (go_big_quiet_want; go_big_quiet_op; first | go_big_quiet_on | (apply Exists.intro; refine ⟨fun _ => ?_, ?_⟩; · (first | with_reducible exact q1 _ _)); go_big_quiet_on))
 refine wpQuiet_nil ?_
 intro w1 hw'
 obtain ⟨⟨dq, osq⟩, hw''⟩ := hw'
 have HB1 : Hid (Below w0.heap.size w0 w1) := by rw [hw'']; exact (below_regrown w0 dq osq)
 clear hw'' q1
 have HL1 := hid (HL0.out.below HB1.out)
 have HR1 := hid (HR0.out.below HB1.out)
 go_wp2_with (first
  | (go_at_call 274; refine (heavy_is w1 F r (.node rk ⟨b1, b2, b3, b4, b5, b6⟩ rl rr) vr (some ⟨g, 0, none⟩) pr (some g) hr2 hl2 HR1.out HL1.out (by have := HN.out; (try simp only [KT.count] at this); (try simp only [KT.count]); omega) (by have := HN.out; (try simp only [KT.count] at this); (try simp only [KT.count]); omega) false H0.out).mono ?_; rintro e w9 ⟨rfl, hw9⟩; rw [hw9]; clear hw9)
  | fail)
 have q1 : QC Tryz.prog w1 274 #[.pointer (some ⟨g, 0, none⟩), .pointer vr] (.bool true) := same_regrown (fun W hb => heavy_is W F (.node rk ⟨b1, b2, b3, b4, b5, b6⟩ rl rr) r (some ⟨g, 0, none⟩) vr (some g) pr hl2 hr2 (HL1.out.below hb) (HR1.out.below hb) (by have := HN.out; (try simp only [KT.count] at this); (try simp only [KT.count]); omega) (by have := HN.out; (try simp only [KT.count] at this); (try simp only [KT.count]); omega) true H1.out)
 have q2 : QC Tryz.prog w1 275 #[.pointer v4, .pointer v3] (.bool false) := same_regrown (fun W hb => inner_is W F rr rl v4 v3 p4 p3 h4 h3 (Hp4.out.below (HB0.out.trans ((HB1.out.trans (hb.mono HB1.out.size)).mono HB0.out.size))) (Hp3.out.below (HB0.out.trans ((HB1.out.trans (hb.mono HB1.out.size)).mono HB0.out.size))) (by have := HN.out; (try simp only [KT.count] at this); (try simp only [KT.count]); omega) (by have := HN.out; (try simp only [KT.count] at this); (try simp only [KT.count]); omega) false H2.out)
 have k8 := fun d os => cell_regrown (show w1.cell? ⟨g, 8, none⟩ = some (.pointer v3) from ((HBg.out.below (HB0.out.trans (HB1.out.mono HB0.out.size)) HBg.out.lt).cell 8).trans (congrArg some h3)) d os
 have k9 := fun d os => cell_regrown (show w1.cell? ⟨g, 9, none⟩ = some (.pointer v4) from ((HBg.out.below (HB0.out.trans (HB1.out.mono HB0.out.size)) HBg.out.lt).cell 9).trans (congrArg some h4)) d os
 refine wp_region_quiet_below (by kernel_rfl) (by kernel_rfl) ?_
 repeat (first | go_big_quiet_skip | (go_big_quiet_want; go_big_quiet_op; first | go_big_quiet_on | (apply Exists.intro; refine ⟨fun _ => ?_, ?_⟩; · (first | with_reducible exact q1 _ _ | with_reducible exact q2 _ _)); go_big_quiet_on))
 refine wpQuiet_nil ?_
 intro w2 hw'
 obtain ⟨⟨dq, osq⟩, hw''⟩ := hw'
 have HB2 : Hid (Below w0.heap.size w0 w2) := by rw [hw'']; exact HB1.out.trans ((below_regrown w1 dq osq).mono HB1.out.size)
 clear hw'' q1 q2 k8 k9
 have HL2 := hid (HL0.out.below HB2.out)
 have HR2 := hid (HR0.out.below HB2.out)
 go_wp2_with fail
 have e0 : ∀ w', Below w2.heap.size w2 w' -> w'.cell? ⟨w.heap.size, 0, none⟩ = some (.int .i64 a1) := fun w' hb => ((HK0.out.below (HB2.out.trans (hb.mono HB2.out.size)) HK0.out.lt).cell 0).trans rfl
 have e1 : ∀ w', Below w2.heap.size w2 w' -> w'.cell? ⟨w.heap.size, 1, none⟩ = some (.int .i64 a2) := fun w' hb => ((HK0.out.below (HB2.out.trans (hb.mono HB2.out.size)) HK0.out.lt).cell 1).trans rfl
 have e2 : ∀ w', Below w2.heap.size w2 w' -> w'.cell? ⟨w.heap.size, 2, none⟩ = some (.int .i64 a3) := fun w' hb => ((HK0.out.below (HB2.out.trans (hb.mono HB2.out.size)) HK0.out.lt).cell 2).trans rfl
 have e3 : ∀ w', Below w2.heap.size w2 w' -> w'.cell? ⟨w.heap.size, 3, none⟩ = some (.int .i64 a4) := fun w' hb => ((HK0.out.below (HB2.out.trans (hb.mono HB2.out.size)) HK0.out.lt).cell 3).trans rfl
 have e4 : ∀ w', Below w2.heap.size w2 w' -> w'.cell? ⟨w.heap.size, 4, none⟩ = some (.int .i64 a5) := fun w' hb => ((HK0.out.below (HB2.out.trans (hb.mono HB2.out.size)) HK0.out.lt).cell 4).trans rfl
 have e5 : ∀ w', Below w2.heap.size w2 w' -> w'.cell? ⟨w.heap.size, 5, none⟩ = some (.bool a6) := fun w' hb => ((HK0.out.below (HB2.out.trans (hb.mono HB2.out.size)) HK0.out.lt).cell 5).trans rfl
 have f0 : ∀ w', Below w2.heap.size w2 w' -> w'.cell? ⟨g, 0, none⟩ = some (.string rk) := fun w' hb => ((HBg.out.below (HB0.out.trans ((HB2.out.trans (hb.mono HB2.out.size)).mono HB0.out.size)) HBg.out.lt).cell 0).trans rfl
 have f1 : ∀ w', Below w2.heap.size w2 w' -> w'.cell? ⟨g, 1, none⟩ = some (.int .i64 b1) := fun w' hb => ((HBg.out.below (HB0.out.trans ((HB2.out.trans (hb.mono HB2.out.size)).mono HB0.out.size)) HBg.out.lt).cell 1).trans rfl
 have f2 : ∀ w', Below w2.heap.size w2 w' -> w'.cell? ⟨g, 2, none⟩ = some (.int .i64 b2) := fun w' hb => ((HBg.out.below (HB0.out.trans ((HB2.out.trans (hb.mono HB2.out.size)).mono HB0.out.size)) HBg.out.lt).cell 2).trans rfl
 have f3 : ∀ w', Below w2.heap.size w2 w' -> w'.cell? ⟨g, 3, none⟩ = some (.int .i64 b3) := fun w' hb => ((HBg.out.below (HB0.out.trans ((HB2.out.trans (hb.mono HB2.out.size)).mono HB0.out.size)) HBg.out.lt).cell 3).trans rfl
 have f4 : ∀ w', Below w2.heap.size w2 w' -> w'.cell? ⟨g, 4, none⟩ = some (.int .i64 b4) := fun w' hb => ((HBg.out.below (HB0.out.trans ((HB2.out.trans (hb.mono HB2.out.size)).mono HB0.out.size)) HBg.out.lt).cell 4).trans rfl
 have f5 : ∀ w', Below w2.heap.size w2 w' -> w'.cell? ⟨g, 5, none⟩ = some (.int .i64 b5) := fun w' hb => ((HBg.out.below (HB0.out.trans ((HB2.out.trans (hb.mono HB2.out.size)).mono HB0.out.size)) HBg.out.lt).cell 5).trans rfl
 have f6 : ∀ w', Below w2.heap.size w2 w' -> w'.cell? ⟨g, 6, none⟩ = some (.bool b6) := fun w' hb => ((HBg.out.below (HB0.out.trans ((HB2.out.trans (hb.mono HB2.out.size)).mono HB0.out.size)) HBg.out.lt).cell 6).trans rfl
 have f8 : ∀ w', Below w2.heap.size w2 w' -> w'.cell? ⟨g, 8, none⟩ = some (.pointer v3) := fun w' hb => ((HBg.out.below (HB0.out.trans ((HB2.out.trans (hb.mono HB2.out.size)).mono HB0.out.size)) HBg.out.lt).cell 8).trans (congrArg some h3)
 have f9 : ∀ w', Below w2.heap.size w2 w' -> w'.cell? ⟨g, 9, none⟩ = some (.pointer v4) := fun w' hb => ((HBg.out.below (HB0.out.trans ((HB2.out.trans (hb.mono HB2.out.size)).mono HB0.out.size)) HBg.out.lt).cell 9).trans (congrArg some h4)
 have JA : ∀ W, Below w2.heap.size w2 W -> Calls Tryz.prog 231 #[.string k, .agg #[.int .i64 a1, .int .i64 a2, .int .i64 a3, .int .i64 a4, .int .i64 a5, .bool a6], .pointer v4, .pointer vr] W fun z w' => ∃ g, z = .returned (.pointer (some ⟨g, 0, none⟩)) /\ TreeAt w' F (.node k ⟨a1, a2, a3, a4, a5, a6⟩ rr r) (some g) /\ Below W.heap.size W w' :=
  fun W hb => by
   have hs := Nat.le_trans (Nat.le_trans HB0.out.size HB2.out.size) hb.size
   exact join_is W F (fun i hi => HF.out i (Nat.le_trans hs hi)) k ⟨a1, a2, a3, a4, a5, a6⟩ rr r v4 vr p4 pr h4 hr2 (Hp4.out.below (HB0.out.trans ((HB2.out.trans (hb.mono HB2.out.size)).mono HB0.out.size))) (HR2.out.below hb) (by have := HN.out; (try simp only [KT.count] at this); (try simp only [KT.count]); omega) _ rfl
 have JB : ∀ W ga, Below w2.heap.size w2 W -> TreeAt W F (.node k ⟨a1, a2, a3, a4, a5, a6⟩ rr r) (some ga) -> Calls Tryz.prog 231 #[.string rk, .agg #[.int .i64 b1, .int .i64 b2, .int .i64 b3, .int .i64 b4, .int .i64 b5, .bool b6], .pointer v3, .pointer (some ⟨ga, 0, none⟩)] W fun z w' => ∃ g, z = .returned (.pointer (some ⟨g, 0, none⟩)) /\ TreeAt w' F (.node rk ⟨b1, b2, b3, b4, b5, b6⟩ rl (.node k ⟨a1, a2, a3, a4, a5, a6⟩ rr r)) (some g) /\ Below W.heap.size W w' :=
  fun W ga hb hT => by
   have hs := Nat.le_trans (Nat.le_trans HB0.out.size HB2.out.size) hb.size
   exact join_is W F (fun i hi => HF.out i (Nat.le_trans hs hi)) rk ⟨b1, b2, b3, b4, b5, b6⟩ rl (.node k ⟨a1, a2, a3, a4, a5, a6⟩ rr r) v3 (some ⟨ga, 0, none⟩) p3 (some ga) h3 rfl (Hp3.out.below (HB0.out.trans ((HB2.out.trans (hb.mono HB2.out.size)).mono HB0.out.size))) hT (by have := HN.out; (try simp only [KT.count] at this); (try simp only [KT.count]); omega) _ rfl
 go_region_held3 (fun w' => Below w2.heap.size w2 w') (first | assumption | exact Below.drew (Below.refl _ _) | exact (Below.refl _ _)) (first
  | (go_at_call 231; with_reducible refine (JA _ (by assumption)).mono ?_; rintro e WA ⟨gA, rfl, hTA, hbA0⟩; have hbA : Below w2.heap.size w2 WA := blt (by assumption) hbA0)
  | (go_at_call 231; with_reducible refine (JB _ gA hbA hTA).mono ?_; rintro e WB ⟨gB, rfl, hTB, hbB0⟩; have hbB : Below w2.heap.size w2 WB := blt hbA hbB0)
  | fail)
 all_goals
  go_wp2_with fail
  go_ret
  exact ⟨gB, rfl, hTB, HB0.out.trans ((HB2.out.trans (hbB.mono HB2.out.size)).mono HB0.out.size)⟩
set_option maxHeartbeats 8000000 in
theorem even_r2 (w : World) (F : Nat -> Prop) (hF : ∀ i, w.heap.size <= i -> F i) (k : ByteArray) (e : KE) (l : KT) (rk mk : ByteArray) (re me : KE) (ml mr rr : KT) (pl pr : Option Nat) (hl : TreeAt w F l pl) (hr : TreeAt w F (.node rk re (.node mk me ml mr) rr) pr) (hn : KT.count l + KT.count (.node rk re (.node mk me ml mr) rr) + 1 <= 1099511627776) (h1 : heavyB (.node rk re (.node mk me ml mr) rr) l = true) (h2 : innerB (.node mk me ml mr) rr = true) :
  Calls Tryz.prog 232 #[.string k, .agg e.cells, pv pl, pv pr] w (EvenOut w F (.node mk me (.node k e l ml) (.node rk re mr rr))) := by
 have HL := hid hl
 have HR := hid hr
 obtain ⟨b1, b2, b3, b4, b5, b6⟩ := re
 have hr' := hr
 obtain ⟨g, p3, p4, hpg, -, hBg, hp3, hp4⟩ := hr'
 subst hpg
 obtain ⟨v3, h3⟩ : ∃ x, pv p3 = .pointer x := ⟨_, rfl⟩
 obtain ⟨v4, h4⟩ : ∃ x, pv p4 = .pointer x := ⟨_, rfl⟩
 have HBg := hid hBg
 have Hp3 := hid hp3
 have Hp4 := hid hp4
 clear hBg hp3 hp4
 have hm := Hp3.out
 obtain ⟨d1, d2, d3, d4, d5, d6⟩ := me
 have hm' := hm
 obtain ⟨m, p5, p6, hpm, -, hBm, hp5, hp6⟩ := hm'
 subst hpm
 obtain ⟨v5, h5⟩ : ∃ x, pv p5 = .pointer x := ⟨_, rfl⟩
 obtain ⟨v6, h6⟩ : ∃ x, pv p6 = .pointer x := ⟨_, rfl⟩
 have HBm := hid hBm
 have Hp5 := hid hp5
 have Hp6 := hid hp6
 clear hBm hp5 hp6
 obtain ⟨a1, a2, a3, a4, a5, a6⟩ := e
 obtain ⟨vl, hl2⟩ : ∃ x, pv pl = .pointer x := ⟨_, rfl⟩
 have hr2 : pv (some g) = .pointer (some ⟨g, 0, none⟩) := rfl
 have HF := hid hF
 have HN := hid hn
 have H1 := hid h1
 have H2 := hid h2
 rw [hl2, hr2]
 clear hl hr hF hn h1 h2
 simp only [KE.cells]
 go_enter Tryz.func232, Tryz.ntmps232
 go_wp2_with fail
 obtain ⟨w0, hw0⟩ : ∃ x, w.alloc (.cells #[.int .i64 a1, .int .i64 a2, .int .i64 a3, .int .i64 a4, .int .i64 a5, .bool a6] 117) = x := ⟨_, rfl⟩
 have HB0 : Hid (Below w.heap.size w w0) := by rw [<- hw0]; exact hid ((Below.refl _ _).alloc (Nat.le_refl _) _)
 have HK0 : Hid (Blk w0 w.heap.size 117 #[.int .i64 a1, .int .i64 a2, .int .i64 a3, .int .i64 a4, .int .i64 a5, .bool a6]) := by rw [<- hw0]; exact hid (Blk.new w _ _)
 have HL0 := hid (HL.out.below HB0.out)
 have HR0 := hid (HR.out.below HB0.out)
 simp only [hw0]
 clear hw0
 have q1 : QC Tryz.prog w0 274 #[.pointer (some ⟨g, 0, none⟩), .pointer vl] (.bool true) := same_regrown (fun W hb => heavy_is W F (.node rk ⟨b1, b2, b3, b4, b5, b6⟩ (.node mk ⟨d1, d2, d3, d4, d5, d6⟩ ml mr) rr) l (some ⟨g, 0, none⟩) vl (some g) pl hr2 hl2 (HR0.out.below hb) (HL0.out.below hb) (by have := HN.out; (try simp only [KT.count] at this); (try simp only [KT.count]); omega) (by have := HN.out; (try simp only [KT.count] at this); (try simp only [KT.count]); omega) true H1.out)
 have q2 : QC Tryz.prog w0 275 #[.pointer (some ⟨m, 0, none⟩), .pointer v4] (.bool true) := same_regrown (fun W hb => inner_is W F (.node mk ⟨d1, d2, d3, d4, d5, d6⟩ ml mr) rr (some ⟨m, 0, none⟩) v4 (some m) p4 rfl h4 (Hp3.out.below (HB0.out.trans (hb.mono HB0.out.size))) (Hp4.out.below (HB0.out.trans (hb.mono HB0.out.size))) (by have := HN.out; (try simp only [KT.count] at this); (try simp only [KT.count]); omega) (by have := HN.out; (try simp only [KT.count] at this); (try simp only [KT.count]); omega) true H2.out)
 have k8 := fun d os => cell_regrown (show w0.cell? ⟨g, 8, none⟩ = some (.pointer (some ⟨m, 0, none⟩)) from ((HBg.out.below HB0.out HBg.out.lt).cell 8).trans (congrArg some rfl)) d os
 have k9 := fun d os => cell_regrown (show w0.cell? ⟨g, 9, none⟩ = some (.pointer v4) from ((HBg.out.below HB0.out HBg.out.lt).cell 9).trans (congrArg some h4)) d os
 refine wp_region_quiet_below (by kernel_rfl) (by kernel_rfl) ?_
 repeat (first | go_big_quiet_skip | (go_big_quiet_want; go_big_quiet_op; first | go_big_quiet_on | (apply Exists.intro; refine ⟨fun _ => ?_, ?_⟩; · (first | with_reducible exact q1 _ _ | with_reducible exact q2 _ _)); go_big_quiet_on))
 refine wpQuiet_nil ?_
 intro w1 hw'
 obtain ⟨⟨dq, osq⟩, hw''⟩ := hw'
 have HB1 : Hid (Below w0.heap.size w0 w1) := by rw [hw'']; exact (below_regrown w0 dq osq)
 clear hw'' q1 q2 k8 k9
 have HL1 := hid (HL0.out.below HB1.out)
 have HR1 := hid (HR0.out.below HB1.out)
 have c8 : w1.cell? ⟨g, 8, none⟩ = some (.pointer (some ⟨m, 0, none⟩)) := ((HBg.out.below (HB0.out.trans (HB1.out.mono HB0.out.size)) HBg.out.lt).cell 8).trans rfl
 go_wp2_with (first
  | (go_at_call 274; refine (heavy_is w1 F (.node rk ⟨b1, b2, b3, b4, b5, b6⟩ (.node mk ⟨d1, d2, d3, d4, d5, d6⟩ ml mr) rr) l (some ⟨g, 0, none⟩) vl (some g) pl hr2 hl2 HR1.out HL1.out (by have := HN.out; (try simp only [KT.count] at this); (try simp only [KT.count]); omega) (by have := HN.out; (try simp only [KT.count] at this); (try simp only [KT.count]); omega) true H1.out).mono ?_; rintro e w9 ⟨rfl, hw9⟩; rw [hw9]; clear hw9)
  | fail)
 clear c8
 have e0 : ∀ w', Below w1.heap.size w1 w' -> w'.cell? ⟨w.heap.size, 0, none⟩ = some (.int .i64 a1) := fun w' hb => ((HK0.out.below (HB1.out.trans (hb.mono HB1.out.size)) HK0.out.lt).cell 0).trans rfl
 have e1 : ∀ w', Below w1.heap.size w1 w' -> w'.cell? ⟨w.heap.size, 1, none⟩ = some (.int .i64 a2) := fun w' hb => ((HK0.out.below (HB1.out.trans (hb.mono HB1.out.size)) HK0.out.lt).cell 1).trans rfl
 have e2 : ∀ w', Below w1.heap.size w1 w' -> w'.cell? ⟨w.heap.size, 2, none⟩ = some (.int .i64 a3) := fun w' hb => ((HK0.out.below (HB1.out.trans (hb.mono HB1.out.size)) HK0.out.lt).cell 2).trans rfl
 have e3 : ∀ w', Below w1.heap.size w1 w' -> w'.cell? ⟨w.heap.size, 3, none⟩ = some (.int .i64 a4) := fun w' hb => ((HK0.out.below (HB1.out.trans (hb.mono HB1.out.size)) HK0.out.lt).cell 3).trans rfl
 have e4 : ∀ w', Below w1.heap.size w1 w' -> w'.cell? ⟨w.heap.size, 4, none⟩ = some (.int .i64 a5) := fun w' hb => ((HK0.out.below (HB1.out.trans (hb.mono HB1.out.size)) HK0.out.lt).cell 4).trans rfl
 have e5 : ∀ w', Below w1.heap.size w1 w' -> w'.cell? ⟨w.heap.size, 5, none⟩ = some (.bool a6) := fun w' hb => ((HK0.out.below (HB1.out.trans (hb.mono HB1.out.size)) HK0.out.lt).cell 5).trans rfl
 have f0 : ∀ w', Below w1.heap.size w1 w' -> w'.cell? ⟨g, 0, none⟩ = some (.string rk) := fun w' hb => ((HBg.out.below (HB0.out.trans ((HB1.out.trans (hb.mono HB1.out.size)).mono HB0.out.size)) HBg.out.lt).cell 0).trans rfl
 have f1 : ∀ w', Below w1.heap.size w1 w' -> w'.cell? ⟨g, 1, none⟩ = some (.int .i64 b1) := fun w' hb => ((HBg.out.below (HB0.out.trans ((HB1.out.trans (hb.mono HB1.out.size)).mono HB0.out.size)) HBg.out.lt).cell 1).trans rfl
 have f2 : ∀ w', Below w1.heap.size w1 w' -> w'.cell? ⟨g, 2, none⟩ = some (.int .i64 b2) := fun w' hb => ((HBg.out.below (HB0.out.trans ((HB1.out.trans (hb.mono HB1.out.size)).mono HB0.out.size)) HBg.out.lt).cell 2).trans rfl
 have f3 : ∀ w', Below w1.heap.size w1 w' -> w'.cell? ⟨g, 3, none⟩ = some (.int .i64 b3) := fun w' hb => ((HBg.out.below (HB0.out.trans ((HB1.out.trans (hb.mono HB1.out.size)).mono HB0.out.size)) HBg.out.lt).cell 3).trans rfl
 have f4 : ∀ w', Below w1.heap.size w1 w' -> w'.cell? ⟨g, 4, none⟩ = some (.int .i64 b4) := fun w' hb => ((HBg.out.below (HB0.out.trans ((HB1.out.trans (hb.mono HB1.out.size)).mono HB0.out.size)) HBg.out.lt).cell 4).trans rfl
 have f5 : ∀ w', Below w1.heap.size w1 w' -> w'.cell? ⟨g, 5, none⟩ = some (.int .i64 b5) := fun w' hb => ((HBg.out.below (HB0.out.trans ((HB1.out.trans (hb.mono HB1.out.size)).mono HB0.out.size)) HBg.out.lt).cell 5).trans rfl
 have f6 : ∀ w', Below w1.heap.size w1 w' -> w'.cell? ⟨g, 6, none⟩ = some (.bool b6) := fun w' hb => ((HBg.out.below (HB0.out.trans ((HB1.out.trans (hb.mono HB1.out.size)).mono HB0.out.size)) HBg.out.lt).cell 6).trans rfl
 have f8 : ∀ w', Below w1.heap.size w1 w' -> w'.cell? ⟨g, 8, none⟩ = some (.pointer (some ⟨m, 0, none⟩)) := fun w' hb => ((HBg.out.below (HB0.out.trans ((HB1.out.trans (hb.mono HB1.out.size)).mono HB0.out.size)) HBg.out.lt).cell 8).trans (congrArg some rfl)
 have f9 : ∀ w', Below w1.heap.size w1 w' -> w'.cell? ⟨g, 9, none⟩ = some (.pointer v4) := fun w' hb => ((HBg.out.below (HB0.out.trans ((HB1.out.trans (hb.mono HB1.out.size)).mono HB0.out.size)) HBg.out.lt).cell 9).trans (congrArg some h4)
 have n0 : ∀ w', Below w1.heap.size w1 w' -> w'.cell? ⟨m, 0, none⟩ = some (.string mk) := fun w' hb => ((HBm.out.below (HB0.out.trans ((HB1.out.trans (hb.mono HB1.out.size)).mono HB0.out.size)) HBm.out.lt).cell 0).trans rfl
 have n1 : ∀ w', Below w1.heap.size w1 w' -> w'.cell? ⟨m, 1, none⟩ = some (.int .i64 d1) := fun w' hb => ((HBm.out.below (HB0.out.trans ((HB1.out.trans (hb.mono HB1.out.size)).mono HB0.out.size)) HBm.out.lt).cell 1).trans rfl
 have n2 : ∀ w', Below w1.heap.size w1 w' -> w'.cell? ⟨m, 2, none⟩ = some (.int .i64 d2) := fun w' hb => ((HBm.out.below (HB0.out.trans ((HB1.out.trans (hb.mono HB1.out.size)).mono HB0.out.size)) HBm.out.lt).cell 2).trans rfl
 have n3 : ∀ w', Below w1.heap.size w1 w' -> w'.cell? ⟨m, 3, none⟩ = some (.int .i64 d3) := fun w' hb => ((HBm.out.below (HB0.out.trans ((HB1.out.trans (hb.mono HB1.out.size)).mono HB0.out.size)) HBm.out.lt).cell 3).trans rfl
 have n4 : ∀ w', Below w1.heap.size w1 w' -> w'.cell? ⟨m, 4, none⟩ = some (.int .i64 d4) := fun w' hb => ((HBm.out.below (HB0.out.trans ((HB1.out.trans (hb.mono HB1.out.size)).mono HB0.out.size)) HBm.out.lt).cell 4).trans rfl
 have n5 : ∀ w', Below w1.heap.size w1 w' -> w'.cell? ⟨m, 5, none⟩ = some (.int .i64 d5) := fun w' hb => ((HBm.out.below (HB0.out.trans ((HB1.out.trans (hb.mono HB1.out.size)).mono HB0.out.size)) HBm.out.lt).cell 5).trans rfl
 have n6 : ∀ w', Below w1.heap.size w1 w' -> w'.cell? ⟨m, 6, none⟩ = some (.bool d6) := fun w' hb => ((HBm.out.below (HB0.out.trans ((HB1.out.trans (hb.mono HB1.out.size)).mono HB0.out.size)) HBm.out.lt).cell 6).trans rfl
 have n8 : ∀ w', Below w1.heap.size w1 w' -> w'.cell? ⟨m, 8, none⟩ = some (.pointer v5) := fun w' hb => ((HBm.out.below (HB0.out.trans ((HB1.out.trans (hb.mono HB1.out.size)).mono HB0.out.size)) HBm.out.lt).cell 8).trans (congrArg some h5)
 have n9 : ∀ w', Below w1.heap.size w1 w' -> w'.cell? ⟨m, 9, none⟩ = some (.pointer v6) := fun w' hb => ((HBm.out.below (HB0.out.trans ((HB1.out.trans (hb.mono HB1.out.size)).mono HB0.out.size)) HBm.out.lt).cell 9).trans (congrArg some h6)
 have JA : ∀ W, Below w1.heap.size w1 W -> Calls Tryz.prog 231 #[.string k, .agg #[.int .i64 a1, .int .i64 a2, .int .i64 a3, .int .i64 a4, .int .i64 a5, .bool a6], .pointer vl, .pointer v5] W fun z w' => ∃ g, z = .returned (.pointer (some ⟨g, 0, none⟩)) /\ TreeAt w' F (.node k ⟨a1, a2, a3, a4, a5, a6⟩ l ml) (some g) /\ Below W.heap.size W w' :=
  fun W hb => by
   have hs := Nat.le_trans (Nat.le_trans HB0.out.size HB1.out.size) hb.size
   exact join_is W F (fun i hi => HF.out i (Nat.le_trans hs hi)) k ⟨a1, a2, a3, a4, a5, a6⟩ l ml vl v5 pl p5 hl2 h5 (HL1.out.below hb) (Hp5.out.below (HB0.out.trans ((HB1.out.trans (hb.mono HB1.out.size)).mono HB0.out.size))) (by have := HN.out; (try simp only [KT.count] at this); (try simp only [KT.count]); omega) _ rfl
 have JB : ∀ W, Below w1.heap.size w1 W -> Calls Tryz.prog 231 #[.string rk, .agg #[.int .i64 b1, .int .i64 b2, .int .i64 b3, .int .i64 b4, .int .i64 b5, .bool b6], .pointer v6, .pointer v4] W fun z w' => ∃ g, z = .returned (.pointer (some ⟨g, 0, none⟩)) /\ TreeAt w' F (.node rk ⟨b1, b2, b3, b4, b5, b6⟩ mr rr) (some g) /\ Below W.heap.size W w' :=
  fun W hb => by
   have hs := Nat.le_trans (Nat.le_trans HB0.out.size HB1.out.size) hb.size
   exact join_is W F (fun i hi => HF.out i (Nat.le_trans hs hi)) rk ⟨b1, b2, b3, b4, b5, b6⟩ mr rr v6 v4 p6 p4 h6 h4 (Hp6.out.below (HB0.out.trans ((HB1.out.trans (hb.mono HB1.out.size)).mono HB0.out.size))) (Hp4.out.below (HB0.out.trans ((HB1.out.trans (hb.mono HB1.out.size)).mono HB0.out.size))) (by have := HN.out; (try simp only [KT.count] at this); (try simp only [KT.count]); omega) _ rfl
 have JC : ∀ W ga gb, Below w1.heap.size w1 W -> TreeAt W F (.node k ⟨a1, a2, a3, a4, a5, a6⟩ l ml) (some ga) -> TreeAt W F (.node rk ⟨b1, b2, b3, b4, b5, b6⟩ mr rr) (some gb) -> Calls Tryz.prog 231 #[.string mk, .agg #[.int .i64 d1, .int .i64 d2, .int .i64 d3, .int .i64 d4, .int .i64 d5, .bool d6], .pointer (some ⟨ga, 0, none⟩), .pointer (some ⟨gb, 0, none⟩)] W fun z w' => ∃ g, z = .returned (.pointer (some ⟨g, 0, none⟩)) /\ TreeAt w' F (.node mk ⟨d1, d2, d3, d4, d5, d6⟩ (.node k ⟨a1, a2, a3, a4, a5, a6⟩ l ml) (.node rk ⟨b1, b2, b3, b4, b5, b6⟩ mr rr)) (some g) /\ Below W.heap.size W w' :=
  fun W ga gb hb hT hU => by
   have hs := Nat.le_trans (Nat.le_trans HB0.out.size HB1.out.size) hb.size
   exact join_is W F (fun i hi => HF.out i (Nat.le_trans hs hi)) mk ⟨d1, d2, d3, d4, d5, d6⟩ (.node k ⟨a1, a2, a3, a4, a5, a6⟩ l ml) (.node rk ⟨b1, b2, b3, b4, b5, b6⟩ mr rr) (some ⟨ga, 0, none⟩) (some ⟨gb, 0, none⟩) (some ga) (some gb) rfl rfl hT hU (by have := HN.out; (try simp only [KT.count] at this); (try simp only [KT.count]); omega) _ rfl
 go_region_held3 (fun w' => Below w1.heap.size w1 w') (first | assumption | exact Below.drew (Below.refl _ _) | exact (Below.refl _ _)) (first
  | (go_at_call 231; with_reducible refine (JA _ (by assumption)).mono ?_; rintro e WA ⟨gA, rfl, hTA, hbA0⟩; have hbA : Below w1.heap.size w1 WA := blt (by assumption) hbA0)
  | (go_at_call 231; with_reducible refine (JB _ (by assumption)).mono ?_; rintro e WB ⟨gB, rfl, hTB, hbB0⟩; have hbB : Below w1.heap.size w1 WB := blt (by assumption) hbB0)
  | (go_at_call 231; with_reducible refine (JC _ gA gB (by assumption) (by first | exact hTA | exact hTA.below hbB0) (by first | exact hTB | exact hTB.below hbA0)).mono ?_; rintro e WC ⟨gC, rfl, hTC, hbC0⟩; have hbC : Below w1.heap.size w1 WC := blt (by assumption) hbC0)
  | fail)
 all_goals
  go_wp2_with fail
  go_ret
  exact ⟨gC, rfl, hTC, HB0.out.trans ((HB1.out.trans (hbC.mono HB1.out.size)).mono HB0.out.size)⟩
set_option maxHeartbeats 8000000 in
theorem even_l2 (w : World) (F : Nat -> Prop) (hF : ∀ i, w.heap.size <= i -> F i) (k : ByteArray) (e : KE) (r : KT) (rk mk : ByteArray) (re me : KE) (ml mr rl : KT) (pl pr : Option Nat) (hl : TreeAt w F (.node rk re rl (.node mk me ml mr)) pl) (hr : TreeAt w F r pr) (hn : KT.count (.node rk re rl (.node mk me ml mr)) + KT.count r + 1 <= 1099511627776) (h0 : heavyB r (.node rk re rl (.node mk me ml mr)) = false) (h1 : heavyB (.node rk re rl (.node mk me ml mr)) r = true) (h2 : innerB (.node mk me ml mr) rl = true) :
  Calls Tryz.prog 232 #[.string k, .agg e.cells, pv pl, pv pr] w (EvenOut w F (.node mk me (.node rk re rl ml) (.node k e mr r))) := by
 have HL := hid hl
 have HR := hid hr
 obtain ⟨b1, b2, b3, b4, b5, b6⟩ := re
 have hl' := hl
 obtain ⟨g, p3, p4, hpg, -, hBg, hp3, hp4⟩ := hl'
 subst hpg
 obtain ⟨v3, h3⟩ : ∃ x, pv p3 = .pointer x := ⟨_, rfl⟩
 obtain ⟨v4, h4⟩ : ∃ x, pv p4 = .pointer x := ⟨_, rfl⟩
 have HBg := hid hBg
 have Hp3 := hid hp3
 have Hp4 := hid hp4
 clear hBg hp3 hp4
 have hm := Hp4.out
 obtain ⟨d1, d2, d3, d4, d5, d6⟩ := me
 have hm' := hm
 obtain ⟨m, p5, p6, hpm, -, hBm, hp5, hp6⟩ := hm'
 subst hpm
 obtain ⟨v5, h5⟩ : ∃ x, pv p5 = .pointer x := ⟨_, rfl⟩
 obtain ⟨v6, h6⟩ : ∃ x, pv p6 = .pointer x := ⟨_, rfl⟩
 have HBm := hid hBm
 have Hp5 := hid hp5
 have Hp6 := hid hp6
 clear hBm hp5 hp6
 obtain ⟨a1, a2, a3, a4, a5, a6⟩ := e
 obtain ⟨vr, hr2⟩ : ∃ x, pv pr = .pointer x := ⟨_, rfl⟩
 have hl2 : pv (some g) = .pointer (some ⟨g, 0, none⟩) := rfl
 have HF := hid hF
 have HN := hid hn
 have H1 := hid h1
 have H2 := hid h2
 have H0 := hid h0
 rw [hl2, hr2]
 clear hl hr hF hn h1 h2 h0
 simp only [KE.cells]
 go_enter Tryz.func232, Tryz.ntmps232
 go_wp2_with fail
 obtain ⟨w0, hw0⟩ : ∃ x, w.alloc (.cells #[.int .i64 a1, .int .i64 a2, .int .i64 a3, .int .i64 a4, .int .i64 a5, .bool a6] 117) = x := ⟨_, rfl⟩
 have HB0 : Hid (Below w.heap.size w w0) := by rw [<- hw0]; exact hid ((Below.refl _ _).alloc (Nat.le_refl _) _)
 have HK0 : Hid (Blk w0 w.heap.size 117 #[.int .i64 a1, .int .i64 a2, .int .i64 a3, .int .i64 a4, .int .i64 a5, .bool a6]) := by rw [<- hw0]; exact hid (Blk.new w _ _)
 have HL0 := hid (HL.out.below HB0.out)
 have HR0 := hid (HR.out.below HB0.out)
 simp only [hw0]
 clear hw0
 have q1 : QC Tryz.prog w0 274 #[.pointer vr, .pointer (some ⟨g, 0, none⟩)] (.bool false) := same_regrown (fun W hb => heavy_is W F r (.node rk ⟨b1, b2, b3, b4, b5, b6⟩ rl (.node mk ⟨d1, d2, d3, d4, d5, d6⟩ ml mr)) vr (some ⟨g, 0, none⟩) pr (some g) hr2 hl2 (HR0.out.below hb) (HL0.out.below hb) (by have := HN.out; (try simp only [KT.count] at this); (try simp only [KT.count]); omega) (by have := HN.out; (try simp only [KT.count] at this); (try simp only [KT.count]); omega) false H0.out)
 refine wp_region_quiet_below (by kernel_rfl) (by kernel_rfl) ?_
 repeat (first | go_big_quiet_skip | (go_big_quiet_want; go_big_quiet_op; first | go_big_quiet_on | (apply Exists.intro; refine ⟨fun _ => ?_, ?_⟩; · (first | with_reducible exact q1 _ _)); go_big_quiet_on))
 refine wpQuiet_nil ?_
 intro w1 hw'
 obtain ⟨⟨dq, osq⟩, hw''⟩ := hw'
 have HB1 : Hid (Below w0.heap.size w0 w1) := by rw [hw'']; exact (below_regrown w0 dq osq)
 clear hw'' q1
 have HL1 := hid (HL0.out.below HB1.out)
 have HR1 := hid (HR0.out.below HB1.out)
 go_wp2_with (first
  | (go_at_call 274; refine (heavy_is w1 F r (.node rk ⟨b1, b2, b3, b4, b5, b6⟩ rl (.node mk ⟨d1, d2, d3, d4, d5, d6⟩ ml mr)) vr (some ⟨g, 0, none⟩) pr (some g) hr2 hl2 HR1.out HL1.out (by have := HN.out; (try simp only [KT.count] at this); (try simp only [KT.count]); omega) (by have := HN.out; (try simp only [KT.count] at this); (try simp only [KT.count]); omega) false H0.out).mono ?_; rintro e w9 ⟨rfl, hw9⟩; rw [hw9]; clear hw9)
  | fail)
 have q1 : QC Tryz.prog w1 274 #[.pointer (some ⟨g, 0, none⟩), .pointer vr] (.bool true) := same_regrown (fun W hb => heavy_is W F (.node rk ⟨b1, b2, b3, b4, b5, b6⟩ rl (.node mk ⟨d1, d2, d3, d4, d5, d6⟩ ml mr)) r (some ⟨g, 0, none⟩) vr (some g) pr hl2 hr2 (HL1.out.below hb) (HR1.out.below hb) (by have := HN.out; (try simp only [KT.count] at this); (try simp only [KT.count]); omega) (by have := HN.out; (try simp only [KT.count] at this); (try simp only [KT.count]); omega) true H1.out)
 have q2 : QC Tryz.prog w1 275 #[.pointer (some ⟨m, 0, none⟩), .pointer v3] (.bool true) := same_regrown (fun W hb => inner_is W F (.node mk ⟨d1, d2, d3, d4, d5, d6⟩ ml mr) rl (some ⟨m, 0, none⟩) v3 (some m) p3 rfl h3 (Hp4.out.below (HB0.out.trans ((HB1.out.trans (hb.mono HB1.out.size)).mono HB0.out.size))) (Hp3.out.below (HB0.out.trans ((HB1.out.trans (hb.mono HB1.out.size)).mono HB0.out.size))) (by have := HN.out; (try simp only [KT.count] at this); (try simp only [KT.count]); omega) (by have := HN.out; (try simp only [KT.count] at this); (try simp only [KT.count]); omega) true H2.out)
 have k8 := fun d os => cell_regrown (show w1.cell? ⟨g, 8, none⟩ = some (.pointer v3) from ((HBg.out.below (HB0.out.trans (HB1.out.mono HB0.out.size)) HBg.out.lt).cell 8).trans (congrArg some h3)) d os
 have k9 := fun d os => cell_regrown (show w1.cell? ⟨g, 9, none⟩ = some (.pointer (some ⟨m, 0, none⟩)) from ((HBg.out.below (HB0.out.trans (HB1.out.mono HB0.out.size)) HBg.out.lt).cell 9).trans (congrArg some rfl)) d os
 refine wp_region_quiet_below (by kernel_rfl) (by kernel_rfl) ?_
 repeat (first | go_big_quiet_skip | (go_big_quiet_want; go_big_quiet_op; first | go_big_quiet_on | (apply Exists.intro; refine ⟨fun _ => ?_, ?_⟩; · (first | with_reducible exact q1 _ _ | with_reducible exact q2 _ _)); go_big_quiet_on))
 refine wpQuiet_nil ?_
 intro w2 hw'
 obtain ⟨⟨dq, osq⟩, hw''⟩ := hw'
 have HB2 : Hid (Below w0.heap.size w0 w2) := by rw [hw'']; exact HB1.out.trans ((below_regrown w1 dq osq).mono HB1.out.size)
 clear hw'' q1 q2 k8 k9
 have HL2 := hid (HL0.out.below HB2.out)
 have HR2 := hid (HR0.out.below HB2.out)
 have c8 : w2.cell? ⟨g, 9, none⟩ = some (.pointer (some ⟨m, 0, none⟩)) := ((HBg.out.below (HB0.out.trans (HB2.out.mono HB0.out.size)) HBg.out.lt).cell 9).trans rfl
 go_wp2_with (first
  | (go_at_call 274; refine (heavy_is w2 F (.node rk ⟨b1, b2, b3, b4, b5, b6⟩ rl (.node mk ⟨d1, d2, d3, d4, d5, d6⟩ ml mr)) r (some ⟨g, 0, none⟩) vr (some g) pr hl2 hr2 HL2.out HR2.out (by have := HN.out; (try simp only [KT.count] at this); (try simp only [KT.count]); omega) (by have := HN.out; (try simp only [KT.count] at this); (try simp only [KT.count]); omega) true H1.out).mono ?_; rintro e w9 ⟨rfl, hw9⟩; rw [hw9]; clear hw9)
  | fail)
 clear c8
 have e0 : ∀ w', Below w2.heap.size w2 w' -> w'.cell? ⟨w.heap.size, 0, none⟩ = some (.int .i64 a1) := fun w' hb => ((HK0.out.below (HB2.out.trans (hb.mono HB2.out.size)) HK0.out.lt).cell 0).trans rfl
 have e1 : ∀ w', Below w2.heap.size w2 w' -> w'.cell? ⟨w.heap.size, 1, none⟩ = some (.int .i64 a2) := fun w' hb => ((HK0.out.below (HB2.out.trans (hb.mono HB2.out.size)) HK0.out.lt).cell 1).trans rfl
 have e2 : ∀ w', Below w2.heap.size w2 w' -> w'.cell? ⟨w.heap.size, 2, none⟩ = some (.int .i64 a3) := fun w' hb => ((HK0.out.below (HB2.out.trans (hb.mono HB2.out.size)) HK0.out.lt).cell 2).trans rfl
 have e3 : ∀ w', Below w2.heap.size w2 w' -> w'.cell? ⟨w.heap.size, 3, none⟩ = some (.int .i64 a4) := fun w' hb => ((HK0.out.below (HB2.out.trans (hb.mono HB2.out.size)) HK0.out.lt).cell 3).trans rfl
 have e4 : ∀ w', Below w2.heap.size w2 w' -> w'.cell? ⟨w.heap.size, 4, none⟩ = some (.int .i64 a5) := fun w' hb => ((HK0.out.below (HB2.out.trans (hb.mono HB2.out.size)) HK0.out.lt).cell 4).trans rfl
 have e5 : ∀ w', Below w2.heap.size w2 w' -> w'.cell? ⟨w.heap.size, 5, none⟩ = some (.bool a6) := fun w' hb => ((HK0.out.below (HB2.out.trans (hb.mono HB2.out.size)) HK0.out.lt).cell 5).trans rfl
 have f0 : ∀ w', Below w2.heap.size w2 w' -> w'.cell? ⟨g, 0, none⟩ = some (.string rk) := fun w' hb => ((HBg.out.below (HB0.out.trans ((HB2.out.trans (hb.mono HB2.out.size)).mono HB0.out.size)) HBg.out.lt).cell 0).trans rfl
 have f1 : ∀ w', Below w2.heap.size w2 w' -> w'.cell? ⟨g, 1, none⟩ = some (.int .i64 b1) := fun w' hb => ((HBg.out.below (HB0.out.trans ((HB2.out.trans (hb.mono HB2.out.size)).mono HB0.out.size)) HBg.out.lt).cell 1).trans rfl
 have f2 : ∀ w', Below w2.heap.size w2 w' -> w'.cell? ⟨g, 2, none⟩ = some (.int .i64 b2) := fun w' hb => ((HBg.out.below (HB0.out.trans ((HB2.out.trans (hb.mono HB2.out.size)).mono HB0.out.size)) HBg.out.lt).cell 2).trans rfl
 have f3 : ∀ w', Below w2.heap.size w2 w' -> w'.cell? ⟨g, 3, none⟩ = some (.int .i64 b3) := fun w' hb => ((HBg.out.below (HB0.out.trans ((HB2.out.trans (hb.mono HB2.out.size)).mono HB0.out.size)) HBg.out.lt).cell 3).trans rfl
 have f4 : ∀ w', Below w2.heap.size w2 w' -> w'.cell? ⟨g, 4, none⟩ = some (.int .i64 b4) := fun w' hb => ((HBg.out.below (HB0.out.trans ((HB2.out.trans (hb.mono HB2.out.size)).mono HB0.out.size)) HBg.out.lt).cell 4).trans rfl
 have f5 : ∀ w', Below w2.heap.size w2 w' -> w'.cell? ⟨g, 5, none⟩ = some (.int .i64 b5) := fun w' hb => ((HBg.out.below (HB0.out.trans ((HB2.out.trans (hb.mono HB2.out.size)).mono HB0.out.size)) HBg.out.lt).cell 5).trans rfl
 have f6 : ∀ w', Below w2.heap.size w2 w' -> w'.cell? ⟨g, 6, none⟩ = some (.bool b6) := fun w' hb => ((HBg.out.below (HB0.out.trans ((HB2.out.trans (hb.mono HB2.out.size)).mono HB0.out.size)) HBg.out.lt).cell 6).trans rfl
 have f8 : ∀ w', Below w2.heap.size w2 w' -> w'.cell? ⟨g, 8, none⟩ = some (.pointer v3) := fun w' hb => ((HBg.out.below (HB0.out.trans ((HB2.out.trans (hb.mono HB2.out.size)).mono HB0.out.size)) HBg.out.lt).cell 8).trans (congrArg some h3)
 have f9 : ∀ w', Below w2.heap.size w2 w' -> w'.cell? ⟨g, 9, none⟩ = some (.pointer (some ⟨m, 0, none⟩)) := fun w' hb => ((HBg.out.below (HB0.out.trans ((HB2.out.trans (hb.mono HB2.out.size)).mono HB0.out.size)) HBg.out.lt).cell 9).trans (congrArg some rfl)
 have n0 : ∀ w', Below w2.heap.size w2 w' -> w'.cell? ⟨m, 0, none⟩ = some (.string mk) := fun w' hb => ((HBm.out.below (HB0.out.trans ((HB2.out.trans (hb.mono HB2.out.size)).mono HB0.out.size)) HBm.out.lt).cell 0).trans rfl
 have n1 : ∀ w', Below w2.heap.size w2 w' -> w'.cell? ⟨m, 1, none⟩ = some (.int .i64 d1) := fun w' hb => ((HBm.out.below (HB0.out.trans ((HB2.out.trans (hb.mono HB2.out.size)).mono HB0.out.size)) HBm.out.lt).cell 1).trans rfl
 have n2 : ∀ w', Below w2.heap.size w2 w' -> w'.cell? ⟨m, 2, none⟩ = some (.int .i64 d2) := fun w' hb => ((HBm.out.below (HB0.out.trans ((HB2.out.trans (hb.mono HB2.out.size)).mono HB0.out.size)) HBm.out.lt).cell 2).trans rfl
 have n3 : ∀ w', Below w2.heap.size w2 w' -> w'.cell? ⟨m, 3, none⟩ = some (.int .i64 d3) := fun w' hb => ((HBm.out.below (HB0.out.trans ((HB2.out.trans (hb.mono HB2.out.size)).mono HB0.out.size)) HBm.out.lt).cell 3).trans rfl
 have n4 : ∀ w', Below w2.heap.size w2 w' -> w'.cell? ⟨m, 4, none⟩ = some (.int .i64 d4) := fun w' hb => ((HBm.out.below (HB0.out.trans ((HB2.out.trans (hb.mono HB2.out.size)).mono HB0.out.size)) HBm.out.lt).cell 4).trans rfl
 have n5 : ∀ w', Below w2.heap.size w2 w' -> w'.cell? ⟨m, 5, none⟩ = some (.int .i64 d5) := fun w' hb => ((HBm.out.below (HB0.out.trans ((HB2.out.trans (hb.mono HB2.out.size)).mono HB0.out.size)) HBm.out.lt).cell 5).trans rfl
 have n6 : ∀ w', Below w2.heap.size w2 w' -> w'.cell? ⟨m, 6, none⟩ = some (.bool d6) := fun w' hb => ((HBm.out.below (HB0.out.trans ((HB2.out.trans (hb.mono HB2.out.size)).mono HB0.out.size)) HBm.out.lt).cell 6).trans rfl
 have n8 : ∀ w', Below w2.heap.size w2 w' -> w'.cell? ⟨m, 8, none⟩ = some (.pointer v5) := fun w' hb => ((HBm.out.below (HB0.out.trans ((HB2.out.trans (hb.mono HB2.out.size)).mono HB0.out.size)) HBm.out.lt).cell 8).trans (congrArg some h5)
 have n9 : ∀ w', Below w2.heap.size w2 w' -> w'.cell? ⟨m, 9, none⟩ = some (.pointer v6) := fun w' hb => ((HBm.out.below (HB0.out.trans ((HB2.out.trans (hb.mono HB2.out.size)).mono HB0.out.size)) HBm.out.lt).cell 9).trans (congrArg some h6)
 have JA : ∀ W, Below w2.heap.size w2 W -> Calls Tryz.prog 231 #[.string k, .agg #[.int .i64 a1, .int .i64 a2, .int .i64 a3, .int .i64 a4, .int .i64 a5, .bool a6], .pointer v6, .pointer vr] W fun z w' => ∃ g, z = .returned (.pointer (some ⟨g, 0, none⟩)) /\ TreeAt w' F (.node k ⟨a1, a2, a3, a4, a5, a6⟩ mr r) (some g) /\ Below W.heap.size W w' :=
  fun W hb => by
   have hs := Nat.le_trans (Nat.le_trans HB0.out.size HB2.out.size) hb.size
   exact join_is W F (fun i hi => HF.out i (Nat.le_trans hs hi)) k ⟨a1, a2, a3, a4, a5, a6⟩ mr r v6 vr p6 pr h6 hr2 (Hp6.out.below (HB0.out.trans ((HB2.out.trans (hb.mono HB2.out.size)).mono HB0.out.size))) (HR2.out.below hb) (by have := HN.out; (try simp only [KT.count] at this); (try simp only [KT.count]); omega) _ rfl
 have JB : ∀ W, Below w2.heap.size w2 W -> Calls Tryz.prog 231 #[.string rk, .agg #[.int .i64 b1, .int .i64 b2, .int .i64 b3, .int .i64 b4, .int .i64 b5, .bool b6], .pointer v3, .pointer v5] W fun z w' => ∃ g, z = .returned (.pointer (some ⟨g, 0, none⟩)) /\ TreeAt w' F (.node rk ⟨b1, b2, b3, b4, b5, b6⟩ rl ml) (some g) /\ Below W.heap.size W w' :=
  fun W hb => by
   have hs := Nat.le_trans (Nat.le_trans HB0.out.size HB2.out.size) hb.size
   exact join_is W F (fun i hi => HF.out i (Nat.le_trans hs hi)) rk ⟨b1, b2, b3, b4, b5, b6⟩ rl ml v3 v5 p3 p5 h3 h5 (Hp3.out.below (HB0.out.trans ((HB2.out.trans (hb.mono HB2.out.size)).mono HB0.out.size))) (Hp5.out.below (HB0.out.trans ((HB2.out.trans (hb.mono HB2.out.size)).mono HB0.out.size))) (by have := HN.out; (try simp only [KT.count] at this); (try simp only [KT.count]); omega) _ rfl
 have JC : ∀ W ga gb, Below w2.heap.size w2 W -> TreeAt W F (.node rk ⟨b1, b2, b3, b4, b5, b6⟩ rl ml) (some gb) -> TreeAt W F (.node k ⟨a1, a2, a3, a4, a5, a6⟩ mr r) (some ga) -> Calls Tryz.prog 231 #[.string mk, .agg #[.int .i64 d1, .int .i64 d2, .int .i64 d3, .int .i64 d4, .int .i64 d5, .bool d6], .pointer (some ⟨gb, 0, none⟩), .pointer (some ⟨ga, 0, none⟩)] W fun z w' => ∃ g, z = .returned (.pointer (some ⟨g, 0, none⟩)) /\ TreeAt w' F (.node mk ⟨d1, d2, d3, d4, d5, d6⟩ (.node rk ⟨b1, b2, b3, b4, b5, b6⟩ rl ml) (.node k ⟨a1, a2, a3, a4, a5, a6⟩ mr r)) (some g) /\ Below W.heap.size W w' :=
  fun W ga gb hb hT hU => by
   have hs := Nat.le_trans (Nat.le_trans HB0.out.size HB2.out.size) hb.size
   exact join_is W F (fun i hi => HF.out i (Nat.le_trans hs hi)) mk ⟨d1, d2, d3, d4, d5, d6⟩ (.node rk ⟨b1, b2, b3, b4, b5, b6⟩ rl ml) (.node k ⟨a1, a2, a3, a4, a5, a6⟩ mr r) (some ⟨gb, 0, none⟩) (some ⟨ga, 0, none⟩) (some gb) (some ga) rfl rfl hT hU (by have := HN.out; (try simp only [KT.count] at this); (try simp only [KT.count]); omega) _ rfl
 go_region_held3 (fun w' => Below w2.heap.size w2 w') (first | assumption | exact Below.drew (Below.refl _ _) | exact (Below.refl _ _)) (first
  | (go_at_call 231; with_reducible refine (JA _ (by assumption)).mono ?_; rintro e WA ⟨gA, rfl, hTA, hbA0⟩; have hbA : Below w2.heap.size w2 WA := blt (by assumption) hbA0)
  | (go_at_call 231; with_reducible refine (JB _ (by assumption)).mono ?_; rintro e WB ⟨gB, rfl, hTB, hbB0⟩; have hbB : Below w2.heap.size w2 WB := blt (by assumption) hbB0)
  | (go_at_call 231; with_reducible refine (JC _ gA gB (by assumption) (by first | exact hTB | exact hTB.below hbA0) (by first | exact hTA | exact hTA.below hbB0)).mono ?_; rintro e WC ⟨gC, rfl, hTC, hbC0⟩; have hbC : Below w2.heap.size w2 WC := blt (by assumption) hbC0)
  | fail)
 all_goals
  go_wp2_with fail
  go_ret
  exact ⟨gC, rfl, hTC, HB0.out.trans ((HB2.out.trans (hbC.mono HB2.out.size)).mono HB0.out.size)⟩
end Go.Proofs.YtendlmdmbkcdnaaGreatDoor.kd
