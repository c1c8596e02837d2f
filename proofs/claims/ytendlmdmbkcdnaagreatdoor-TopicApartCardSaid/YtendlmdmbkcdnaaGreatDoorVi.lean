/-
  Texts of the proof joined by a program: Kdc Kdd Kde Sge Osr Oss.
-/
import Derived.Test.YtendlmdmbkcdnaaGreatDoorVh
import Derived.Deep.LoopGhost
import Derived.Test.YtendlmdmbkcdnaaGreatDoorVg
set_option linter.unusedSimpArgs false
set_option linter.unusedVariables false
namespace Go.Proofs.YtendlmdmbkcdnaaGreatDoor.kd
open Go.RowKit oc
open Go.Lib (hid)
set_option maxRecDepth 100000
theorem even_any (w : World) (F : Nat -> Prop) (hF : ∀ i, w.heap.size <= i -> F i) (k : ByteArray) (e : KE) (l r : KT) (pl pr : Option Nat) (hl : TreeAt w F l pl) (hr : TreeAt w F r pr) (hn : l.count + r.count + 1 <= 1099511627776) :
  Calls Tryz.prog 232 #[.string k, .agg e.cells, pv pl, pv pr] w (EvenOut w F (evenT k e l r)) := by
 cases h1 : heavyB r l with
 | true =>
  have h1' := h1
  simp only [heavyB, decide_eq_true_eq] at h1'
  cases r with
  | nil => simp only [KT.count] at h1'; omega
  | node rk re rl rr =>
   cases h2 : innerB rl rr with
   | false =>
    rw [show evenT k e l (.node rk re rl rr) = .node rk re (.node k e l rl) rr by simp [evenT, h1, h2]]
    exact even_r1 w F hF k e l rk re rl rr pl pr hl hr hn h1 h2
   | true =>
    have h2' := h2
    simp only [innerB, decide_eq_true_eq] at h2'
    cases rl with
    | nil => simp only [KT.count] at h2'; omega
    | node mk me ml mr =>
     rw [show evenT k e l (.node rk re (.node mk me ml mr) rr) = .node mk me (.node k e l ml) (.node rk re mr rr) by simp [evenT, h1, h2]]
     exact even_r2 w F hF k e l rk mk re me ml mr rr pl pr hl hr hn h1 h2
 | false =>
  cases h0 : heavyB l r with
  | false =>
   rw [show evenT k e l r = .node k e l r by simp [evenT, h1, h0]]
   exact even_plain w F hF k e l r pl pr hl hr hn h1 h0
  | true =>
   have h1' := h0
   simp only [heavyB, decide_eq_true_eq] at h1'
   cases l with
   | nil => simp only [KT.count] at h1'; omega
   | node rk re rl rr =>
    cases h2 : innerB rr rl with
    | false =>
     rw [show evenT k e (.node rk re rl rr) r = .node rk re rl (.node k e rr r) by simp [evenT, h1, h0, h2]]
     exact even_l1 w F hF k e r rk re rl rr pl pr hl hr hn h1 h0 h2
    | true =>
     have h2' := h2
     simp only [innerB, decide_eq_true_eq] at h2'
     cases rr with
     | nil => simp only [KT.count] at h2'; omega
     | node mk me ml mr =>
      rw [show evenT k e (.node rk re rl (.node mk me ml mr)) r = .node mk me (.node rk re rl ml) (.node k e mr r) by simp [evenT, h1, h0, h2]]
      exact even_l2 w F hF k e r rk mk re me ml mr rl pl pr hl hr hn h1 h0 h2
def findT (key : ByteArray) : KT -> Option KE
 | .nil => none
 | .node k e l r => if cmpL key.data.toList k.data.toList = 0 then some e else if cmpL key.data.toList k.data.toList = -1 then findT key l else findT key r
def height : KT -> Nat
 | .nil => 0
 | .node _ _ l r => max (height l) (height r) + 1
def Found (w : World) (o : Option KE) (v : Value) : Prop := match o with
 | none => v = .pointer none
 | some e => ∃ g k n pl pr, v = .pointer (some ⟨g, 0, none⟩) /\ Blk w g 202 (nodeC k e n pl pr)
theorem cmpL_cases : ∀ (a b : List UInt8), cmpL a b = 0 \/ cmpL a b = -1 \/ cmpL a b = 1
 | [], [] => by simp [cmpL]
 | [], _ :: _ => by simp [cmpL]
 | _ :: _, [] => by simp [cmpL]
 | x :: a, y :: b => by
  unfold cmpL
  split
  ·simp
  ·split
   ·simp
   ·exact cmpL_cases a b
set_option maxHeartbeats 4000000 in
theorem find_any (w : World) (F : Nat -> Prop) (t : KT) (p : Option Nat) (key : ByteArray) (h : TreeAt w F t p) (hs : t.short) (hk : key.size <= 64) :
  Calls Tryz.prog 118 #[pv p, .string key] w fun e w' => ∃ v, e = .returned v /\ Found w' (findT key t) v /\ Below w.heap.size w w' := by
 obtain ⟨res, hres⟩ : ∃ r, findT key t = r := ⟨_, rfl⟩
 obtain ⟨x, hx⟩ : ∃ x, pv p = .pointer x := ⟨_, rfl⟩
 have HH := hid h
 have HS := hid hs
 have HK := hid hk
 have HRES := hid hres
 have HX := hid hx
 rw [hx, hres]
 clear h hs hk hres hx
 go_enter Tryz.func118, Tryz.ntmps118
 go_wp2_with fail
 go_loopg [0] (height t) (fun k v wr => ∃ t' p' x', v = .pointer x' /\ Hid (pv p' = .pointer x') /\ Hid (TreeAt wr F t' p') /\ Hid t'.short /\ Hid (findT key t' = res) /\ Hid (height t' <= k) /\ Hid (Below w.heap.size w wr))
 case atStart => exact ⟨t, p, x, rfl, HX, HH, HS, HRES, hid (Nat.le_refl _), hid (Below.refl _ _)⟩
 case round =>
  obtain ⟨t', p', x', rfl, HX', HT, HS', HR, HG, HB⟩ := hrel
  cases t' with
  | nil =>
   have hp : p' = none := HT.out
   subst hp
   have hx' := HX'.out
   simp only [pv, pa] at hx'
   cases hx'
   go_wp2_with fail
   go_ret
   refine ⟨_, rfl, ?_, HB.out⟩
   have := HR.out
   simp only [findT] at this
   rw [<- this]
   rfl
  | node k' e' l r =>
   obtain ⟨g, pl, pr, hp, -, hB, hl, hr⟩ := HT.out
   subst hp
   have hx' := HX'.out
   simp only [pv, pa] at hx'
   cases hx'
   obtain ⟨vl, hvl⟩ : ∃ x, pv pl = .pointer x := ⟨_, rfl⟩
   obtain ⟨vr, hvr⟩ : ∃ x, pv pr = .pointer x := ⟨_, rfl⟩
   have HBk := hid hB
   have HL := hid hl
   have HR2 := hid hr
   have k0 : wr.cell? ⟨g, 0, none⟩ = some (.string k') := (hB.cell 0).trans rfl
   clear hB hl hr
   have hss := HS'.out
   simp only [KT.short] at hss
   have hc := compare_any key k' (by have := HK.out; omega) (by have := hss.1; omega) wr
   have hcc := cmpL_cases key.data.toList k'.data.toList
   have HF2 := HR.out
   simp only [findT] at HF2
   have HFF := hid HF2
   have HSS := hid hss
   generalize cmpL key.data.toList k'.data.toList = c at hc hcc HFF
   clear HF2 hss
   have HC := hid hc
   clear hc
   rcases hcc with rfl | rfl | rfl
   ·go_wp2_with (first
     | (go_at_call 104; refine HC.out.mono ?_; rintro e w2 ⟨rfl, hb⟩; have HB2 := hid hb; clear hb)
     | fail)
    go_ret
    refine ⟨_, rfl, ?_, HB.out.trans (HB2.out.mono HB.out.size)⟩
    have := HFF.out
    simp only [if_true] at this
    rw [<- this]
    exact ⟨g, k', _, pl, pr, rfl, HBk.out.below HB2.out HBk.out.lt⟩
   ·go_wp2_with (first
     | (go_at_call 104; refine HC.out.mono ?_; rintro e w2 ⟨rfl, hb⟩; have HB2 := hid hb; have k8 : w2.cell? ⟨g, 8, none⟩ = some (.pointer vl) := ((HBk.out.below HB2.out HBk.out.lt).cell 8).trans (congrArg some hvl); clear hb)
     | fail)
    go_roundg (height l)
    case measure => have := HG.out; simp only [height] at this; omega
    case rel => exact ⟨l, pl, vl, rfl, hid hvl, HL.out.below HB2.out, hid HSS.out.2.1, hid (by have := HFF.out; simpa using this), hid (Nat.le_refl _), HB.out.trans (HB2.out.mono HB.out.size)⟩
   ·go_wp2_with (first
     | (go_at_call 104; refine HC.out.mono ?_; rintro e w2 ⟨rfl, hb⟩; have HB2 := hid hb; have k9 : w2.cell? ⟨g, 9, none⟩ = some (.pointer vr) := ((HBk.out.below HB2.out HBk.out.lt).cell 9).trans (congrArg some hvr); clear hb)
     | fail)
    go_roundg (height r)
    case measure => have := HG.out; simp only [height] at this; omega
    case rel => exact ⟨r, pr, vr, rfl, hid hvr, HR2.out.below HB2.out, hid HSS.out.2.2, hid (by have := HFF.out; simpa using this), hid (Nat.le_refl _), HB.out.trans (HB2.out.mono HB.out.size)⟩
def withT (key : ByteArray) (x : KE) : KT -> KT
 | .nil => .node key x .nil .nil
 | .node k e l r => if cmpL key.data.toList k.data.toList < 0 then evenT k e (withT key x l) r else if 0 < cmpL key.data.toList k.data.toList then evenT k e l (withT key x r) else .node key x l r
theorem withT_count (key : ByteArray) (x : KE) : ∀ t : KT, (withT key x t).count <= t.count + 1
 | .nil => by simp [withT, KT.count]
 | .node k e l r => by
  have h1 := withT_count key x l
  have h2 := withT_count key x r
  unfold withT
  split
  ·rw [evenT_count]; simp only [KT.count]; omega
  ·split
   ·rw [evenT_count]; simp only [KT.count]; omega
   ·simp only [KT.count]; omega
theorem evenT_short {k : ByteArray} {e : KE} {l r : KT} (hk : k.size <= 64) (hl : l.short) (hr : r.short) : (evenT k e l r).short := by
 unfold evenT
 split
 ·cases r with
  | nil => trivial
  | node rk re rl rr =>
   obtain ⟨h1, h2, h3⟩ := hr
   dsimp only
   split
   ·cases rl with
    | nil => trivial
    | node mk me ml mr =>
     obtain ⟨h4, h5, h6⟩ := h2
     exact ⟨h4, ⟨hk, hl, h5⟩, ⟨h1, h6, h3⟩⟩
   ·exact ⟨h1, ⟨hk, hl, h2⟩, h3⟩
 ·split
  ·cases l with
   | nil => trivial
   | node rk re rl rr =>
    obtain ⟨h1, h2, h3⟩ := hl
    dsimp only
    split
    ·cases rr with
     | nil => trivial
     | node mk me ml mr =>
      obtain ⟨h4, h5, h6⟩ := h3
      exact ⟨h4, ⟨h1, h2, h5⟩, ⟨hk, h6, hr⟩⟩
    ·exact ⟨h1, h2, ⟨hk, h3, hr⟩⟩
  ·exact ⟨hk, hl, hr⟩
theorem withT_short {key : ByteArray} {x : KE} (hk : key.size <= 64) : ∀ {t : KT}, t.short -> (withT key x t).short
 | .nil, _ => ⟨hk, trivial, trivial⟩
 | .node k e l r, ⟨h1, h2, h3⟩ => by
  unfold withT
  split
  ·exact evenT_short h1 (withT_short hk h2) h3
  ·split
   ·exact evenT_short h1 h2 (withT_short hk h3)
   ·exact ⟨hk, h2, h3⟩
theorem even_is (w : World) (F : Nat -> Prop) (hF : ∀ i, w.heap.size <= i -> F i) (k : ByteArray) (e : KE) (l r : KT) (x y : Option Addr) (pl pr : Option Nat) (hx : pv pl = .pointer x) (hy : pv pr = .pointer y) (hl : TreeAt w F l pl) (hr : TreeAt w F r pr) (hn : l.count + r.count + 1 <= 1099511627776) (ce : Array Value) (he : e.cells = ce) :
  Calls Tryz.prog 232 #[.string k, .agg ce, .pointer x, .pointer y] w (EvenOut w F (evenT k e l r)) := by
 rw [<- hx, <- hy, <- he]
 exact even_any w F hF k e l r pl pr hl hr hn
set_option maxHeartbeats 8000000 in
theorem with_any (F : Nat -> Prop) (key : ByteArray) (e : KE) (hk : key.size <= 64) : ∀ (t : KT) (w : World) (p : Option Nat) (x : Option Addr), (∀ i, w.heap.size <= i -> F i) -> pv p = .pointer x -> TreeAt w F t p -> t.short -> t.count + 1 <= 1099511627776 ->
  Calls Tryz.prog 187 #[.pointer x, .string key, .agg e.cells] w (EvenOut w F (withT key e t)) := by
 intro t
 obtain ⟨a1, a2, a3, a4, a5, a6⟩ := e
 have HK := hid hk
 clear hk
 induction t with
 | nil =>
  intro w p x hF hx h hs hn
  have hp : p = none := h
  subst hp
  simp only [pv, pa] at hx
  cases hx
  have HF := hid hF
  clear hF h hs hn
  simp only [KE.cells]
  go_enter Tryz.func187, Tryz.ntmps187
  have HB0 : Hid (∀ y, Below w.heap.size w (w.alloc y)) := hid (fun y => (Below.refl _ _).alloc (Nat.le_refl _) y)
  go_wp2_with (first
   | (go_at_call 231; refine (join_is _ F (fun i hi => HF.out i (by simp at hi; omega)) key ⟨a1, a2, a3, a4, a5, a6⟩ .nil .nil none none none none rfl rfl rfl rfl (by simp [KT.count]) _ rfl).mono ?_; rintro y w2 ⟨g, rfl, hT, hb⟩; have HT := hid hT; have HB := hid hb; clear hT hb)
   | fail)
  go_ret
  exact ⟨g, rfl, HT.out, (HB0.out _).trans (HB.out.mono (HB0.out _).size)⟩
 | node k re l r ihl ihr =>
  obtain ⟨b1, b2, b3, b4, b5, b6⟩ := re
  intro w p x hF hx h hs hn
  have HIL := hid ihl
  have HIR := hid ihr
  have h' := h
  obtain ⟨g, pl, pr, hp, -, hB, hl, hr⟩ := h'
  subst hp
  simp only [pv, pa] at hx
  cases hx
  obtain ⟨vl, hvl⟩ : ∃ x, pv pl = .pointer x := ⟨_, rfl⟩
  obtain ⟨vr, hvr⟩ : ∃ x, pv pr = .pointer x := ⟨_, rfl⟩
  obtain ⟨hs0, hs1, hs2⟩ := hs
  simp only [KT.count] at hn
  have HF := hid hF
  have HB := hid hB
  have HL := hid hl
  have HR := hid hr
  have HN := hid hn
  have HS1 := hid hs1
  have HS2 := hid hs2
  have hc := fun W => compare_any key k (by have := HK.out; omega) (by omega) W
  have HW : Hid (withT key ⟨a1, a2, a3, a4, a5, a6⟩ (.node k ⟨b1, b2, b3, b4, b5, b6⟩ l r) = if cmpL key.data.toList k.data.toList < 0 then evenT k ⟨b1, b2, b3, b4, b5, b6⟩ (withT key ⟨a1, a2, a3, a4, a5, a6⟩ l) r else if 0 < cmpL key.data.toList k.data.toList then evenT k ⟨b1, b2, b3, b4, b5, b6⟩ l (withT key ⟨a1, a2, a3, a4, a5, a6⟩ r) else .node key ⟨a1, a2, a3, a4, a5, a6⟩ l r) := hid (by rw [withT])
  have HC := hid hc
  have HCL := hid (withT_count key ⟨a1, a2, a3, a4, a5, a6⟩ l)
  have HCR := hid (withT_count key ⟨a1, a2, a3, a4, a5, a6⟩ r)
  obtain ⟨T, hT⟩ : ∃ T, withT key ⟨a1, a2, a3, a4, a5, a6⟩ (.node k ⟨b1, b2, b3, b4, b5, b6⟩ l r) = T := ⟨_, rfl⟩
  rw [hT]
  have HTW : Hid (T = _) := hid (hT.symm.trans HW.out)
  clear hT
  clear ihl ihr h hB hl hr hF hn hs0 hs1 hs2 hc HW
  simp only [KE.cells]
  go_enter Tryz.func187, Tryz.ntmps187
  have HB0 : Hid (∀ y, Below w.heap.size w (w.alloc y)) := hid (fun y => (Below.refl _ _).alloc (Nat.le_refl _) y)
  have m0 : ∀ y, (w.alloc y).cell? ⟨g, 0, none⟩ = some (.string k) := fun y => ((HB.out.alloc y).cell 0).trans rfl
  have HK0 : Hid (Blk (w.alloc (.cells #[.int .i64 a1, .int .i64 a2, .int .i64 a3, .int .i64 a4, .int .i64 a5, .bool a6] 117)) w.heap.size 117 #[.int .i64 a1, .int .i64 a2, .int .i64 a3, .int .i64 a4, .int .i64 a5, .bool a6]) := hid (Blk.new w _ _)
  go_wp2_with fail
  refine (HC.out _).mono ?_
  rintro y w1 ⟨rfl, hb1⟩
  have HB1 : Hid (Below w.heap.size w w1) := (HB0.out _).trans (hb1.mono (HB0.out _).size)
  have HK1 := hid (HK0.out.below hb1 HK0.out.lt)
  clear hb1 m0 HK0 HB0 HC
  have HBk := hid (HB.out.below HB1.out HB.out.lt)
  have e0 : ∀ w', Below w1.heap.size w1 w' -> w'.cell? ⟨w.heap.size, 0, none⟩ = some (.int .i64 a1) := fun w' hb => ((HK1.out.below hb HK1.out.lt).cell 0).trans rfl
  have e1 : ∀ w', Below w1.heap.size w1 w' -> w'.cell? ⟨w.heap.size, 1, none⟩ = some (.int .i64 a2) := fun w' hb => ((HK1.out.below hb HK1.out.lt).cell 1).trans rfl
  have e2 : ∀ w', Below w1.heap.size w1 w' -> w'.cell? ⟨w.heap.size, 2, none⟩ = some (.int .i64 a3) := fun w' hb => ((HK1.out.below hb HK1.out.lt).cell 2).trans rfl
  have e3 : ∀ w', Below w1.heap.size w1 w' -> w'.cell? ⟨w.heap.size, 3, none⟩ = some (.int .i64 a4) := fun w' hb => ((HK1.out.below hb HK1.out.lt).cell 3).trans rfl
  have e4 : ∀ w', Below w1.heap.size w1 w' -> w'.cell? ⟨w.heap.size, 4, none⟩ = some (.int .i64 a5) := fun w' hb => ((HK1.out.below hb HK1.out.lt).cell 4).trans rfl
  have e5 : ∀ w', Below w1.heap.size w1 w' -> w'.cell? ⟨w.heap.size, 5, none⟩ = some (.bool a6) := fun w' hb => ((HK1.out.below hb HK1.out.lt).cell 5).trans rfl
  have f0 : ∀ w', Below w1.heap.size w1 w' -> w'.cell? ⟨g, 0, none⟩ = some (.string k) := fun w' hb => ((HBk.out.below hb HBk.out.lt).cell 0).trans rfl
  have f1 : ∀ w', Below w1.heap.size w1 w' -> w'.cell? ⟨g, 1, none⟩ = some (.int .i64 b1) := fun w' hb => ((HBk.out.below hb HBk.out.lt).cell 1).trans rfl
  have f2 : ∀ w', Below w1.heap.size w1 w' -> w'.cell? ⟨g, 2, none⟩ = some (.int .i64 b2) := fun w' hb => ((HBk.out.below hb HBk.out.lt).cell 2).trans rfl
  have f3 : ∀ w', Below w1.heap.size w1 w' -> w'.cell? ⟨g, 3, none⟩ = some (.int .i64 b3) := fun w' hb => ((HBk.out.below hb HBk.out.lt).cell 3).trans rfl
  have f4 : ∀ w', Below w1.heap.size w1 w' -> w'.cell? ⟨g, 4, none⟩ = some (.int .i64 b4) := fun w' hb => ((HBk.out.below hb HBk.out.lt).cell 4).trans rfl
  have f5 : ∀ w', Below w1.heap.size w1 w' -> w'.cell? ⟨g, 5, none⟩ = some (.int .i64 b5) := fun w' hb => ((HBk.out.below hb HBk.out.lt).cell 5).trans rfl
  have f6 : ∀ w', Below w1.heap.size w1 w' -> w'.cell? ⟨g, 6, none⟩ = some (.bool b6) := fun w' hb => ((HBk.out.below hb HBk.out.lt).cell 6).trans rfl
  have f8 : ∀ w', Below w1.heap.size w1 w' -> w'.cell? ⟨g, 8, none⟩ = some (.pointer vl) := fun w' hb => ((HBk.out.below hb HBk.out.lt).cell 8).trans (congrArg some hvl)
  have f9 : ∀ w', Below w1.heap.size w1 w' -> w'.cell? ⟨g, 9, none⟩ = some (.pointer vr) := fun w' hb => ((HBk.out.below hb HBk.out.lt).cell 9).trans (congrArg some hvr)
  have HFW : Hid (∀ W, Below w1.heap.size w1 W -> ∀ i, W.heap.size <= i -> F i) := hid (fun W hb i hi => HF.out i (Nat.le_trans HB1.out.size (Nat.le_trans hb.size hi)))
  have HL1 := hid (HL.out.below HB1.out)
  have HR1 := hid (HR.out.below HB1.out)
  clear HB HF HL HR
  have hcc := cmpL_cases key.data.toList k.data.toList
  have hw2 := HTW.out
  generalize cmpL key.data.toList k.data.toList = c at hcc hw2 ⊢
  clear HTW
  rcases hcc with rfl | rfl | rfl <;> simp at hw2 <;> subst hw2
  ·have JB : ∀ W, Below w1.heap.size w1 W -> Calls Tryz.prog 231 #[.string key, .agg #[.int .i64 a1, .int .i64 a2, .int .i64 a3, .int .i64 a4, .int .i64 a5, .bool a6], .pointer vl, .pointer vr] W fun z w' => ∃ g, z = .returned (.pointer (some ⟨g, 0, none⟩)) /\ TreeAt w' F (.node key ⟨a1, a2, a3, a4, a5, a6⟩ l r) (some g) /\ Below W.heap.size W w' :=
    fun W hb => join_is W F (HFW.out W hb) key ⟨a1, a2, a3, a4, a5, a6⟩ l r vl vr pl pr hvl hvr (HL1.out.below hb) (HR1.out.below hb) (by have := HN.out; omega) _ rfl
   go_wp2_with fail
   go_region_held3 (fun w' => Below w1.heap.size w1 w') (first | assumption | exact Below.drew (Below.refl _ _) | exact (Below.refl _ _)) (first
    | (go_at_call 231; with_reducible refine (JB _ (by assumption)).mono ?_; rintro e WB ⟨gB, rfl, hTB, hbB0⟩; have hbB : Below w1.heap.size w1 WB := blt (by assumption) hbB0)
    | fail)
   all_goals
    go_wp2_with fail
    go_ret
    exact ⟨gB, rfl, hTB, HB1.out.trans (hbB.mono HB1.out.size)⟩
  ·have JA : ∀ W, Below w1.heap.size w1 W -> Calls Tryz.prog 187 #[.pointer vl, .string key, .agg #[.int .i64 a1, .int .i64 a2, .int .i64 a3, .int .i64 a4, .int .i64 a5, .bool a6]] W fun z w' => ∃ g, z = .returned (.pointer (some ⟨g, 0, none⟩)) /\ TreeAt w' F (withT key ⟨a1, a2, a3, a4, a5, a6⟩ l) (some g) /\ Below W.heap.size W w' :=
    fun W hb => HIL.out W pl vl (HFW.out W hb) hvl (HL1.out.below hb) HS1.out (by have := HN.out; omega)
   have JB : ∀ W ga, Below w1.heap.size w1 W -> TreeAt W F (withT key ⟨a1, a2, a3, a4, a5, a6⟩ l) (some ga) -> Calls Tryz.prog 232 #[.string k, .agg #[.int .i64 b1, .int .i64 b2, .int .i64 b3, .int .i64 b4, .int .i64 b5, .bool b6], .pointer (some ⟨ga, 0, none⟩), .pointer vr] W fun z w' => ∃ g, z = .returned (.pointer (some ⟨g, 0, none⟩)) /\ TreeAt w' F (evenT k ⟨b1, b2, b3, b4, b5, b6⟩ (withT key ⟨a1, a2, a3, a4, a5, a6⟩ l) r) (some g) /\ Below W.heap.size W w' :=
    fun W ga hb hT => even_is W F (HFW.out W hb) k ⟨b1, b2, b3, b4, b5, b6⟩ _ r _ vr (some ga) pr rfl hvr hT (HR1.out.below hb) (by have := HN.out; have := HCL.out; omega) _ rfl
   go_wp2_with fail
   go_region_held3 (fun w' => Below w1.heap.size w1 w') (first | assumption | exact Below.drew (Below.refl _ _) | exact (Below.refl _ _)) (first
    | (go_at_call 187; with_reducible refine (JA _ (by assumption)).mono ?_; rintro e WA ⟨gA, rfl, hTA, hbA0⟩; have hbA : Below w1.heap.size w1 WA := blt (by assumption) hbA0)
    | (go_at_call 232; with_reducible refine (JB _ gA hbA hTA).mono ?_; rintro e WB ⟨gB, rfl, hTB, hbB0⟩; have hbB : Below w1.heap.size w1 WB := blt hbA hbB0)
    | fail)
   all_goals
    go_wp2_with fail
    go_ret
    exact ⟨gB, rfl, hTB, HB1.out.trans (hbB.mono HB1.out.size)⟩
  ·have JA : ∀ W, Below w1.heap.size w1 W -> Calls Tryz.prog 187 #[.pointer vr, .string key, .agg #[.int .i64 a1, .int .i64 a2, .int .i64 a3, .int .i64 a4, .int .i64 a5, .bool a6]] W fun z w' => ∃ g, z = .returned (.pointer (some ⟨g, 0, none⟩)) /\ TreeAt w' F (withT key ⟨a1, a2, a3, a4, a5, a6⟩ r) (some g) /\ Below W.heap.size W w' :=
    fun W hb => HIR.out W pr vr (HFW.out W hb) hvr (HR1.out.below hb) HS2.out (by have := HN.out; omega)
   have JB : ∀ W ga, Below w1.heap.size w1 W -> TreeAt W F (withT key ⟨a1, a2, a3, a4, a5, a6⟩ r) (some ga) -> Calls Tryz.prog 232 #[.string k, .agg #[.int .i64 b1, .int .i64 b2, .int .i64 b3, .int .i64 b4, .int .i64 b5, .bool b6], .pointer vl, .pointer (some ⟨ga, 0, none⟩)] W fun z w' => ∃ g, z = .returned (.pointer (some ⟨g, 0, none⟩)) /\ TreeAt w' F (evenT k ⟨b1, b2, b3, b4, b5, b6⟩ l (withT key ⟨a1, a2, a3, a4, a5, a6⟩ r)) (some g) /\ Below W.heap.size W w' :=
    fun W ga hb hT => even_is W F (HFW.out W hb) k ⟨b1, b2, b3, b4, b5, b6⟩ l _ vl _ pl (some ga) hvl rfl (HL1.out.below hb) hT (by have := HN.out; have := HCR.out; omega) _ rfl
   go_wp2_with fail
   go_region_held3 (fun w' => Below w1.heap.size w1 w') (first | assumption | exact Below.drew (Below.refl _ _) | exact (Below.refl _ _)) (first
    | (go_at_call 187; with_reducible refine (JA _ (by assumption)).mono ?_; rintro e WA ⟨gA, rfl, hTA, hbA0⟩; have hbA : Below w1.heap.size w1 WA := blt (by assumption) hbA0)
    | (go_at_call 232; with_reducible refine (JB _ gA hbA hTA).mono ?_; rintro e WB ⟨gB, rfl, hTB, hbB0⟩; have hbB : Below w1.heap.size w1 WB := blt hbA hbB0)
    | fail)
   all_goals
    go_wp2_with fail
    go_ret
    exact ⟨gB, rfl, hTB, HB1.out.trans (hbB.mono HB1.out.size)⟩
def DirAt (w : World) (F : Nat -> Prop) (d : Nat) (t : KT) : Prop := ∃ p, Blk w d 270 #[pv p] /\ TreeAt w F t p
theorem DirAt.below {w w' : World} {F : Nat -> Prop} {d : Nat} {t : KT} (h : DirAt w F d t) (hb : Below w.heap.size w w') : DirAt w' F d t := by
 obtain ⟨p, h1, h2⟩ := h
 exact ⟨p, h1.below hb h1.lt, h2.below hb⟩
theorem new_any (w : World) (F : Nat -> Prop) : Calls Tryz.prog 93 #[] w fun e w' => e = .returned (.pointer (some ⟨w.heap.size, 0, none⟩)) /\ DirAt w' F w.heap.size .nil /\ Below w.heap.size w w' := by
 go_enter Tryz.func93, Tryz.ntmps93
 go_wp2_with fail
 go_ret
 exact ⟨rfl, ⟨none, Blk.new w _ _, rfl⟩, (Below.refl _ _).alloc (Nat.le_refl _) _⟩
theorem top_any (w : World) (d : Nat) (x : Option Addr) (h : Blk w d 270 #[.pointer x]) : Calls Tryz.prog 105 #[.pointer (some ⟨d, 0, none⟩)] w fun e w' => e = .returned (.pointer x) /\ w' = w := by
 have c0 : w.cell? ⟨d, 0, none⟩ = some (.pointer x) := (h.cell 0).trans rfl
 clear h
 go_enter Tryz.func105, Tryz.ntmps105
 go_wp2_with fail
 go_ret
 exact ⟨rfl, rfl⟩
theorem refused_ok (w : World) (d : Nat) (key : ByteArray) (h1 : 1 <= key.size) (h2 : key.size <= 64) : Calls Tryz.prog 186 #[.pointer (some ⟨d, 0, none⟩), .string key] w fun e w' => e = .returned (.int .i64 0) /\ w' = w := by
 have g1 : decide ((key.size : Int) < 1) = false := decide_eq_false (by omega)
 have g2 : decide ((64 : Int) < (key.size : Int)) = false := decide_eq_false (by omega)
 go_enter Tryz.func186, Tryz.ntmps186
 go_wp2_with fail
 go_ret
 exact ⟨rfl, rfl⟩
theorem results_cell_tmp {P : Program} {fn : Func} {p q : Tmp} {ty : TypeId} (h : fn.results = #[.cell p ty, .tmp q]) (tmps : Array Value) (w : World) (g : Nat) (t : TypeId) (cs : Array Value) (fr : Nat × Nat) (d : TypeDesc)
  (hp : tmps.getD p undef = .pointer (some ⟨g, 0, none⟩)) (hg : w.heap[g]? = some (.cells cs t fr))
  (hu : P.underlying ty = some d) (hd : (match d with | .struct _ | .array _ _ => true | _ => false) = true) (hi : (P.info? ty).map (·.size) = some cs.size) :
  (results fn tmps).run P w = .ok (.tuple #[.agg cs, tmps.getD q undef]) w := by
 have hp' : tmps[p]?.getD undef = .pointer (some ⟨g, 0, none⟩) := by simpa using hp
 simp [results, h, hp', asAddr, run_loadVar_row w g t ty cs fr d hg hu hd hi]
def entOf : Option KE -> KE
 | none => KE.zero
 | some e => e
set_option maxHeartbeats 2000000 in
theorem get_any (w : World) (F : Nat -> Prop) (d : Nat) (t : KT) (key : ByteArray) (h : DirAt w F d t) (hs : t.short) (hk : key.size <= 64) :
  Calls Tryz.prog 59 #[.pointer (some ⟨d, 0, none⟩), .string key] w fun e w' => e = .returned (.tuple #[.agg (entOf (findT key t)).cells, .bool (findT key t).isSome]) /\ Below w.heap.size w w' := by
 obtain ⟨p, hB, hT⟩ := h
 obtain ⟨x, hx⟩ : ∃ x, pv p = .pointer x := ⟨_, rfl⟩
 rw [hx] at hB
 have HB := hid hB
 have HF := fun W hb => find_any W F t p key (hT.below hb) hs hk
 rw [hx] at HF
 have HFF : Hid (∀ W, Below w.heap.size w W -> Calls Tryz.prog 118 #[.pointer x, .string key] W fun e w' => ∃ v, e = .returned v /\ Found w' (findT key t) v /\ Below W.heap.size W w') := hid HF
 generalize findT key t = o at HFF ⊢
 clear hB hT hs hk HF
 go_enter Tryz.func59, Tryz.ntmps59
 have HB0 : Hid (∀ y, Below w.heap.size w (w.alloc y)) := hid (fun y => (Below.refl _ _).alloc (Nat.le_refl _) y)
 go_wp2_with (first
  | (go_at_call 105; refine (top_any _ d x (HB.out.alloc _)).mono ?_; rintro e w1 ⟨rfl, hw1⟩; rw [hw1]; clear hw1)
  | fail)
 refine (HFF.out _ (HB0.out _)).mono ?_
 rintro e w2 ⟨v, rfl, hf, hb⟩
 have HB2 : Hid (Below w.heap.size w w2) := hid ((HB0.out _).trans (hb.mono (HB0.out _).size))
 have Z0 : Hid (Blk w2 w.heap.size 117 #[.int .i64 0, .int .i64 0, .int .i64 0, .int .i64 0, .int .i64 0, .bool false]) := hid ((Blk.new w _ _).below hb (by simp))
 clear hb HFF HB HB0
 cases o with
 | none =>
  have hf' : v = .pointer none := hf
  subst hf'
  clear hf
  go_wp2_with (first
   | ((with_reducible refine at_op ⟨none, .store 117 (.tmp 4) (.tmp 13), _, _, _, _⟩ ?_); refine wpList_store_blk rfl 117 (.tmp 4) (.tmp 13) rfl w.heap.size 0 rfl KE.zero.cells.toList rfl (by simp [KE.cells, KE.zero, Value.oneCell']) 117 _ Z0.out (by simp [KE.cells]) (by kernel_rfl) ?_; intro w3 hT3 hg3 hs3; rw [put_all _ _ (by simp [KE.cells])] at hT3; have HT3 := hid hT3; have HB3 : Hid (Below w.heap.size w w3) := hid (below_gb HB2.out hg3 HB2.out.size (Nat.le_refl _)); clear hT3 hg3 hs3)
   | fail)
  refine bodyPost_ret (results_cell_tmp rfl _ _ w.heap.size 117 KE.zero.cells (0, 0) _ rfl HT3.out Tryz.underlying117 rfl (by kernel_rfl)) rfl ?_
  exact ⟨rfl, HB3.out⟩
 | some e =>
  obtain ⟨g, k', n, pl, pr, rfl, hbn⟩ := hf
  have kE : ∀ (j : Nat) (v : Value), e.cells.toList[j]? = some v -> w2.cell? (Addr.add ⟨g, 1, none⟩ j) = some v := fun j v hj => by
   rw [add_flat, hbn.cell (1 + j)]
   match j, hj with
   | 0, hj => simpa [KE.cells, nodeC] using hj
   | 1, hj => simpa [KE.cells, nodeC] using hj
   | 2, hj => simpa [KE.cells, nodeC] using hj
   | 3, hj => simpa [KE.cells, nodeC] using hj
   | 4, hj => simpa [KE.cells, nodeC] using hj
   | 5, hj => simpa [KE.cells, nodeC] using hj
   | j + 6, hj => simp [KE.cells] at hj
  clear hbn
  go_wp2_with (first
   | ((with_reducible refine at_op ⟨some 17, .load 117 (.tmp 16), _, _, _, _⟩ ?_); refine wpList_load_list rfl 117 (.tmp 16) rfl ⟨g, 1, none⟩ rfl e.cells.toList kE _ Tryz.underlying117 rfl (by kernel_rfl) ?_)
   | ((with_reducible refine at_op ⟨none, .store 117 (.tmp 4) (.tmp 17), _, _, _, _⟩ ?_); refine wpList_store_blk rfl 117 (.tmp 4) (.tmp 17) rfl w.heap.size 0 rfl e.cells.toList rfl (by simp [KE.cells, Value.oneCell']) 117 _ Z0.out (by simp [KE.cells]) (by kernel_rfl) ?_; intro w3 hT3 hg3 hs3; rw [put_all _ _ (by simp [KE.cells])] at hT3; have HT3 := hid hT3; have HB3 : Hid (Below w.heap.size w w3) := hid (below_gb HB2.out hg3 HB2.out.size (Nat.le_refl _)); clear hT3 hg3 hs3)
   | fail)
  refine bodyPost_ret (results_cell_tmp rfl _ _ w.heap.size 117 e.cells (0, 0) _ rfl HT3.out Tryz.underlying117 rfl (by kernel_rfl)) rfl ?_
  exact ⟨rfl, HB3.out⟩
end Go.Proofs.YtendlmdmbkcdnaaGreatDoor.kd
namespace Go.Proofs.YtendlmdmbkcdnaaGreatDoor.sg
open Go.RowKit Go.Maps Go.WideMaps oc rc gh
open Go.Lib (hid)
set_option maxRecDepth 100000
structure SegS where
 limit : Int
 i : Inf
 sum : Nat
 n : Nat
def segC (d : Nat) (X : SegS) (mp : Nat) (ov : Value) : Array Value := #[.pointer (some ⟨d, 0, none⟩), .int .i64 X.limit, .int .i64 X.i.topic, .int .i64 X.i.seg, .int .i64 X.i.base, .int .i64 X.i.size, .int .i64 (X.i.count : Int), .int .i64 X.i.last, .bool X.i.sealed, .int .u32 (X.sum : Int), .map (some mp), ov]
def SegV (w : World) (G : Gh) (τ g d : Nat) (X : SegS) (mp : Nat) (ov : Value) : Prop :=
 BlkR w G g 205 (segC d X mp ov) (some (τ, .seg)) /\ (∃ D, MapR w G 3 anyR mp X.n D (some (τ, .places))) /\ (∃ xs, RowR w G 3 1 ov X.n xs (some (τ, .order)))
def SegAt (w : World) (G : Gh) (τ g d : Nat) (X : SegS) : Prop := ∃ mp ov, SegV w G τ g d X mp ov
def CS (τ : Nat) : Tag -> Role -> Prop := fun t r => t = .other /\ (r = some (τ, .seg) \/ r = some (τ, .places) \/ r = some (τ, .order))
theorem SegV.keep {C : Tag -> Role -> Prop} {G G' : Gh} {w w' : World} {τ g d : Nat} {X : SegS} {mp : Nat} {ov : Value} (h : SegV w G τ g d X mp ov) (hF : Fx C G G' w w') (h1 : ¬ C .other (some (τ, .seg))) (h2 : ¬ C .other (some (τ, .places))) (h3 : ¬ C .other (some (τ, .order))) : SegV w' G' τ g d X mp ov := by
 obtain ⟨a, ⟨D, b⟩, ⟨xs, c⟩⟩ := h
 exact ⟨a.keep hF h1, ⟨D, b.keep hF h2⟩, ⟨xs, c.keep hF h3⟩⟩
theorem SegAt.keep {C : Tag -> Role -> Prop} {G G' : Gh} {w w' : World} {τ g d : Nat} {X : SegS} (h : SegAt w G τ g d X) (hF : Fx C G G' w w') (h1 : ¬ C .other (some (τ, .seg))) (h2 : ¬ C .other (some (τ, .places))) (h3 : ¬ C .other (some (τ, .order))) : SegAt w' G' τ g d X := by
 obtain ⟨mp, ov, h⟩ := h
 exact ⟨mp, ov, h.keep hF h1 h2 h3⟩
theorem SegAt.below {G : Gh} {w w' : World} {τ g d : Nat} {X : SegS} (h : SegAt w G τ g d X) (hb : Below w.heap.size w w') : SegAt w' G τ g d X := h.keep (C := CN) (Fx.below hb) (fun x => x) (fun x => x) (fun x => x)
set_option maxHeartbeats 2000000 in
theorem info_any (w : World) (G : Gh) (τ g d : Nat) (X : SegS) (h : SegAt w G τ g d X) :
  Calls Tryz.prog 44 #[.pointer (some ⟨g, 0, none⟩)] w fun e w' => e = .returned (.agg X.i.cells) /\ Below w.heap.size w w' := by
 obtain ⟨mp, ov, ⟨hB, _⟩, _⟩ := h
 have kE : ∀ y : Obj, ∀ (j : Nat) (v : Value), X.i.cells.toList[j]? = some v -> (w.alloc y).cell? (Addr.add ⟨g, 2, none⟩ j) = some v := fun y j v hj => by
  rw [add_flat, (hB.alloc y).cell (2 + j)]
  match j, hj with
  | 0, hj => simpa [Inf.cells, segC] using hj
  | 1, hj => simpa [Inf.cells, segC] using hj
  | 2, hj => simpa [Inf.cells, segC] using hj
  | 3, hj => simpa [Inf.cells, segC] using hj
  | 4, hj => simpa [Inf.cells, segC] using hj
  | 5, hj => simpa [Inf.cells, segC] using hj
  | 6, hj => simpa [Inf.cells, segC] using hj
  | j + 7, hj => simp [Inf.cells] at hj
 clear hB
 go_enter Tryz.func44, Tryz.ntmps44
 go_wp2_with (first
  | ((with_reducible refine at_op ⟨some 9, .load 79 (.tmp 8), _, _, _, _⟩ ?_); refine wpList_load_list rfl 79 (.tmp 8) rfl ⟨g, 2, none⟩ rfl X.i.cells.toList (kE _) _ Tryz.underlying79 rfl (by kernel_rfl) ?_)
  | ((with_reducible refine at_op ⟨none, .store 79 (.tmp 2) (.tmp 9), _, _, _, _⟩ ?_); refine wpList_store_blk rfl 79 (.tmp 2) (.tmp 9) rfl w.heap.size 0 rfl X.i.cells.toList rfl (by simp [Inf.cells, Value.oneCell']) 79 _ (Blk.new w _ _) (by simp [Inf.cells]) (by kernel_rfl) ?_; intro w3 hT3 hg3 hs3; rw [put_all _ _ (by simp [Inf.cells])] at hT3; have HT3 := hid hT3; have HB3 : Hid (Below w.heap.size w w3) := hid (below_gb ((Below.refl _ _).alloc (Nat.le_refl _) _) hg3 (by simp) (Nat.le_refl _)); clear hT3 hg3 hs3)
  | fail)
 refine bodyPost_ret (results_cell_row rfl _ _ w.heap.size 79 X.i.cells (0, 0) _ rfl HT3.out Tryz.underlying79 rfl (by kernel_rfl)) rfl ?_
 exact ⟨rfl, HB3.out⟩
def noted (X : SegS) : SegS := { X with n := X.n + 1 }
set_option maxHeartbeats 4000000 in
theorem note_any (w : World) (G : Gh) (τ g d : Nat) (X : SegS) (h : SegAt w G τ g d X) (hf : Fin G w) (hn : X.n <= 1073741824) (p k : Int) (hp0 : -9223372036854775808 <= p) (hp1 : p <= 9223372036854775807) :
  Calls Tryz.prog 109 #[.pointer (some ⟨g, 0, none⟩), .int .i64 p, .int .i64 k] w fun e w' => ∃ G', e = .returned (.tuple #[]) /\ SegAt w' G' τ g d (noted X) /\ Fx (CS τ) G G' w w' /\ Fin G' w' /\ G'.ow = G.ow := by
 obtain ⟨mp, ov, hV, ⟨D, hM⟩, ⟨xs, hR⟩⟩ := h
 obtain ⟨i0, hi, hz0, hz1, hz2⟩ := info_parts infoI
 obtain ⟨OA, oc, rfl⟩ := own_slice hR.1
 have HV := hid hV
 have HM := hid hM
 have HR := hid hR
 have HF := hid hf
 have HN := hid hn
 have hk := keyI p hp0 hp1
 have c10 : w.cell? ⟨g, 10, none⟩ = some (.map (some mp)) := (hV.cell 10).trans rfl
 have HMX : Hid (X.n + 1 <= maxLen) := hid (by unfold maxLen; omega)
 have HLM : Hid ((X.n + 1) * 8 <= 140737488355328) := hid (by omega)
 clear hV hM hR hf hn
 go_enter Tryz.func109, Tryz.ntmps109
 go_wp2_with (first
  | (at_mapUpdate; go_must (refine wpList_mapUpdate_own _ rfl _ _ _ 107 rfl 3 3 lawN Tryz.underlying107 anyR mp X.n _ rfl HM.out.1 (by have := HN.out; unfold maxLen; omega) _ _ _ rfl rfl hk .nil [] rfl ?_; intro w2 hown2 hgrow2; have HO2 : Hid (MapR w2 G 3 anyR mp (X.n + 1) _ (some (τ, .places))) := hid ⟨hown2, HM.out.2⟩; have HX2 : Hid (Fx (CR (some (τ, .places))) G G w w2) := hid (Fx.grown hgrow2 HM.out.2); have HV2 := hid (HV.out.keep HX2.out (by rintro ⟨_, h⟩; cases h)); have HR2 := hid (HR.out.keep HX2.out (by rintro ⟨_, h⟩; cases h)); have c11 : w2.cell? ⟨g, 11, none⟩ = some (.slice OA X.n oc) := (HV2.out.cell 11).trans rfl; clear hown2 hgrow2))
  | (at_builtin; go_must (refine wpList_append_own_at _ rfl _ _ 64 rfl 0 3 i0 (.int .i64 0) 1 8 Tryz.underlying64 hi hz0 hz1 hz2 rfl (by decide) (.slice OA X.n oc) X.n xs rfl (HR2.out.1.alloc _) ⟨w2.heap.size, 0, none⟩ 1 1 [.int .i64 p] rfl rfl (cell_one_new _ _ _) (by simp [Value.oneCell']) HMX.out HLM.out (Nat.zero_le _) ?_; intro v3 w3 hown3 hgr3 _ hloc3; obtain ⟨A3, c3, rfl⟩ := own_slice hown3; obtain ⟨G3, hR3, hX3, hF3, hO3⟩ := row_app HR2.out ((Below.refl _ w2).alloc (Nat.le_refl _) _) hgr3 hown3 (Nat.succ_pos _) hloc3 (HF.out.more HX2.out.size); have HR3 := hid hR3; have HX3 := hid hX3; have HF3 := hid hF3; have HOW := hid hO3; have HV3 := hid (HV2.out.keep HX3.out (by rintro ⟨_, h⟩; cases h)); have HM3 := hid (HO2.out.keep HX3.out (by rintro ⟨_, h⟩; cases h)); have d11 : w3.cell? ⟨g, 11, none⟩ = some (.slice OA X.n oc) := (HV3.out.cell 11).trans rfl; have f11 := HV3.out.frozen 11; clear hown3 hgr3 hloc3 hR3 hX3 hF3 hO3))
  | fail)
 go_end0
 have hX4 := Fx.set (w := w3) 11 (.slice A3 (X.n + 1) c3) HV3.out.2
 have hB4 : BlkR (w3.setCell ⟨g, 11, none⟩ (.slice A3 (X.n + 1) c3)) G3 g 205 (segC d (noted X) mp (.slice A3 (X.n + 1) c3)) (some (τ, .seg)) := HV3.out.set 11 _
 refine ⟨G3, rfl, ⟨mp, _, hB4, ⟨_, HM3.out.keep hX4 (by rintro ⟨_, h⟩; cases h)⟩, ⟨_, HR3.out.keep hX4 (by rintro ⟨_, h⟩; cases h)⟩⟩, ?_, HF3.out.more hX4.size, HOW.out⟩
 exact ((HX2.out.cr (by rintro t rfl; exact ⟨rfl, Or.inr (Or.inl rfl)⟩)).trans (HX3.out.cr (by rintro t rfl; exact ⟨rfl, Or.inr (Or.inr rfl)⟩))).trans (hX4.cr (by rintro t rfl; exact ⟨rfl, Or.inl rfl⟩))
end Go.Proofs.YtendlmdmbkcdnaaGreatDoor.sg
namespace Go.Proofs.YtendlmdmbkcdnaaGreatDoor.oc
open Go.RowKit Go.Maps Go.WideMaps
set_option maxRecDepth 100000
def Own1 (ow : Nat -> Tag) (W : World) (g : Nat) (t : TypeId) (v : Value) : Prop := Blk W g t #[v] /\ ow g = .other
theorem Own1.fr {ow ow' : Nat -> Tag} {W W' : World} {g : Nat} {t : TypeId} {v : Value} (h : Own1 ow W g t v) (hF : Fr CD ow ow' W W') : Own1 ow' W' g t v :=
 ⟨blk_keepH h.1 (hF.keep _ h.1.lt (by rw [h.2]; exact fun e => e.1 rfl)), (hF.old _ h.1.lt).trans h.2⟩
theorem Own1.below {ow : Nat -> Tag} {W W' : World} {g : Nat} {t : TypeId} {v : Value} (h : Own1 ow W g t v) (hb : Below W.heap.size W W') : Own1 ow W' g t v := ⟨h.1.below hb h.1.lt, h.2⟩
theorem Own1.alloc {ow : Nat -> Tag} {W : World} {g : Nat} {t : TypeId} {v : Value} (h : Own1 ow W g t v) (o : Obj) : Own1 ow (W.alloc o) g t v := ⟨h.1.alloc o, h.2⟩
theorem Own1.cell {ow : Nat -> Tag} {W : World} {g : Nat} {t : TypeId} {v : Value} (h : Own1 ow W g t v) : W.cell? ⟨g, 0, none⟩ = some v := (h.1.cell 0).trans rfl
theorem Own1.new {ow : Nat -> Tag} (W : World) (t : TypeId) (v : Value) {n : Nat} (hn : W.heap.size = n) (h : ow n = .other) : Own1 ow (W.alloc (.cells #[v] t)) n t v := by
 subst hn
 exact ⟨Blk.new W t _, h⟩
theorem caps5 (w : World) (ow : Nat -> Tag) (hnew : ∀ i, w.heap.size <= i -> ow i = .other) (t0 t1 t2 t3 t4 : TypeId) (v0 v1 v2 v3 v4 : Value) :
  ∃ W, W = (((((w.alloc (.cells #[v0] t0)).alloc (.cells #[v1] t1)).alloc (.cells #[v2] t2)).alloc (.cells #[v3] t3)).alloc (.cells #[v4] t4)) /\ Below w.heap.size w W /\ W.heap.size = w.heap.size + 5 /\
   Own1 ow W w.heap.size t0 v0 /\ Own1 ow W (w.heap.size + 1) t1 v1 /\ Own1 ow W (w.heap.size + 1 + 1) t2 v2 /\ Own1 ow W (w.heap.size + 1 + 1 + 1) t3 v3 /\ Own1 ow W (w.heap.size + 1 + 1 + 1 + 1) t4 v4 := by
 refine ⟨_, rfl, ((((((Below.refl _ w).alloc (Nat.le_refl _) _).alloc (by simp only [World.size_alloc]; omega) _).alloc (by simp only [World.size_alloc]; omega) _).alloc (by simp only [World.size_alloc]; omega) _).alloc (by simp only [World.size_alloc]; omega) _), by simp only [World.size_alloc], ?_, ?_, ?_, ?_, ?_⟩
 ·exact ((((Own1.new w t0 v0 rfl (hnew _ (Nat.le_refl _))).alloc _).alloc _).alloc _).alloc _
 ·exact (((Own1.new _ t1 v1 (by simp only [World.size_alloc]) (hnew _ (by omega))).alloc _).alloc _).alloc _
 ·exact ((Own1.new _ t2 v2 (by simp only [World.size_alloc]) (hnew _ (by omega))).alloc _).alloc _
 ·exact (Own1.new _ t3 v3 (by simp only [World.size_alloc]) (hnew _ (by omega))).alloc _
 ·exact Own1.new _ t4 v4 (by simp only [World.size_alloc]) (hnew _ (by omega))
def Ret0 (R : World -> Prop) (e : Ending) (w' : World) : Prop := e = .returned (.int .i64 0) /\ R w'
theorem clo2 (w : World) (z z4 d : Nat) (b : ByteArray) (R : World -> Prop) (c0 : w.cell? ⟨z, 0, none⟩ = some (.pointer (some ⟨d, 0, none⟩))) (c4 : w.cell? ⟨z4, 0, none⟩ = some (.string b)) (h : Calls Tryz.prog 153 #[.pointer (some ⟨d, 0, none⟩), .string b] w (Ret0 R)) :
  Calls Tryz.prog 245 #[.pointer (some ⟨z, 0, none⟩), .pointer (some ⟨z4, 0, none⟩)] w (Ret0 R) := by
 go_enter Tryz.func245, Tryz.ntmps245
 go_wp2_with fail
 refine h.mono ?_
 rintro e w1 ⟨rfl, hr⟩
 go_wp2_with fail
 go_ret
 exact ⟨rfl, hr⟩
theorem clo3 (w : World) (z z4 z2 d n c : Nat) (A : Option Addr) (b : ByteArray) (R : World -> Prop) (c0 : w.cell? ⟨z, 0, none⟩ = some (.pointer (some ⟨d, 0, none⟩))) (c4 : w.cell? ⟨z4, 0, none⟩ = some (.string b)) (c2 : w.cell? ⟨z2, 0, none⟩ = some (.slice A n c)) (h : Calls Tryz.prog 107 #[.pointer (some ⟨d, 0, none⟩), .string b, .slice A n c] w (Ret0 R)) :
  Calls Tryz.prog 246 #[.pointer (some ⟨z, 0, none⟩), .pointer (some ⟨z4, 0, none⟩), .pointer (some ⟨z2, 0, none⟩)] w (Ret0 R) := by
 go_enter Tryz.func246, Tryz.ntmps246
 go_wp2_with fail
 refine h.mono ?_
 rintro e w1 ⟨rfl, hr⟩
 go_wp2_with fail
 go_ret
 exact ⟨rfl, hr⟩
theorem clo4 (w : World) (z z4 d : Nat) (b : ByteArray) (R : World -> Prop) (c0 : w.cell? ⟨z, 0, none⟩ = some (.pointer (some ⟨d, 0, none⟩))) (c4 : w.cell? ⟨z4, 0, none⟩ = some (.string b)) (h : Calls Tryz.prog 140 #[.pointer (some ⟨d, 0, none⟩), .string b] w (Ret0 R)) :
  Calls Tryz.prog 247 #[.pointer (some ⟨z, 0, none⟩), .pointer (some ⟨z4, 0, none⟩)] w (Ret0 R) := by
 go_enter Tryz.func247, Tryz.ntmps247
 go_wp2_with fail
 refine h.mono ?_
 rintro e w1 ⟨rfl, hr⟩
 go_wp2_with fail
 go_ret
 exact ⟨rfl, hr⟩
theorem clo5 (w : World) (z z4 z1 d : Nat) (a b : ByteArray) (R : World -> Prop) (c0 : w.cell? ⟨z, 0, none⟩ = some (.pointer (some ⟨d, 0, none⟩))) (c4 : w.cell? ⟨z4, 0, none⟩ = some (.string b)) (c1 : w.cell? ⟨z1, 0, none⟩ = some (.string a)) (h : Calls Tryz.prog 249 #[.pointer (some ⟨d, 0, none⟩), .string b, .string a] w (Ret0 R)) :
  Calls Tryz.prog 248 #[.pointer (some ⟨z, 0, none⟩), .pointer (some ⟨z4, 0, none⟩), .pointer (some ⟨z1, 0, none⟩)] w (Ret0 R) := by
 go_enter Tryz.func248, Tryz.ntmps248
 go_wp2_with fail
 refine h.mono ?_
 rintro e w1 ⟨rfl, hr⟩
 go_wp2_with fail
 go_ret
 exact ⟨rfl, hr⟩
theorem clo1 (w : World) (m z3 z z4 : Nat) (c1 : w.cell? ⟨m, 0, none⟩ = some (.bool true)) (c3 : w.cell? ⟨z3, 0, none⟩ = some (.int .i64 0)) :
  CallsD Tryz.prog 244 #[.pointer (some ⟨m, 0, none⟩), .pointer (some ⟨z3, 0, none⟩), .pointer (some ⟨z, 0, none⟩), .pointer (some ⟨z4, 0, none⟩)] .returning w fun e u' w' => u' = .returning /\ (e = .returned (.tuple #[]) /\ w' = w) := by
 go_enter_d Tryz.func244, Tryz.ntmps244
 go_wp2_with fail
 go_end0
 exact ⟨rfl, rfl⟩
def T1 (S : DiskS) (b : ByteArray) (f : Nat) : DiskS := { S with dir := doD S.dir (.made b f), dchs := S.dchs ++ [.made b f], lim := S.lim + 1, ops := S.ops + 1, file := updF S.file f ⟨[], [], []⟩ }
def T2 (S : DiskS) (b : ByteArray) (l : List UInt8) (f : Nat) : DiskS := { T1 S b f with used := (T1 S b f).used + l.length, ops := (T1 S b f).ops + 1, file := updF (T1 S b f).file f { (⟨[], [], []⟩ : FileS) with seen := [] ++ l, chs := [] ++ [.app l] } }
def F3 (l : List UInt8) : FileS := { (⟨[] ++ l, [], [] ++ [.app l]⟩ : FileS) with safe := appAll ([] ++ [.app l]) [], chs := [] }
def T3 (S : DiskS) (b : ByteArray) (l : List UInt8) (f : Nat) : DiskS := { T2 S b l f with ops := (T2 S b l f).ops + 1, file := updF (T2 S b l f).file f (F3 l) }
def T4 (S : DiskS) (a b : ByteArray) (l : List UInt8) (gz : Int) (f : Nat) : DiskS := { T3 S b l f with dir := doD (T3 S b l f).dir (.ren b a), dchs := (T3 S b l f).dchs ++ [.ren b a], lim := (T3 S b l f).lim + 1, used := (T3 S b l f).used - gz, ops := (T3 S b l f).ops + 1 }
def T5 (S : DiskS) (a b : ByteArray) (l : List UInt8) (gz : Int) (f : Nat) : DiskS := { T4 S a b l gz f with safe := doAll (T4 S a b l gz f).dchs (T4 S a b l gz f).safe, dchs := [], lim := (T4 S a b l gz f).lim + (T4 S a b l gz f).dchs.length, ops := (T4 S a b l gz f).ops + 1 }
def TK (S : DiskS) (a b : ByteArray) (l : List UInt8) (gz : Int) (f : Nat) : Nat -> DiskS
 | 0 => S
 | 1 => T1 S b f
 | 2 => T2 S b l f
 | 3 => T3 S b l f
 | 4 => T4 S a b l gz f
 | _ => T5 S a b l gz f
structure Rep (ow : Nat -> Tag) (w W : World) (d z m : Nat) (S : DiskS) (a b : ByteArray) (l : List UInt8) (gz : Int) (A : Option Addr) (n c k : Nat) (fl : Bool) : Prop where
 go : ∃ f owk, w.heap.size <= f /\ DiskAt W owk d (TK S a b l gz f k) /\ Fr CD ow owk w W /\
  Own1 owk W z 23 (.pointer (some ⟨d, 0, none⟩)) /\ Own1 owk W (z + 1) 9 (.string a) /\ Own1 owk W (z + 1 + 1) 74 (.slice A n c) /\ Own1 owk W (z + 1 + 1 + 1) 24 (.int .i64 0) /\ Own1 owk W (z + 1 + 1 + 1 + 1) 9 (.string b) /\
  Own1 owk W m 4 (.bool fl) /\
  (Blk W (m + 1) 89 #[.func (.func 245) #[] #[.pointer (some ⟨z, 0, none⟩), .pointer (some ⟨z + 1 + 1 + 1 + 1, 0, none⟩)],
   .func (.func 246) #[] #[.pointer (some ⟨z, 0, none⟩), .pointer (some ⟨z + 1 + 1 + 1 + 1, 0, none⟩), .pointer (some ⟨z + 1 + 1, 0, none⟩)],
   .func (.func 247) #[] #[.pointer (some ⟨z, 0, none⟩), .pointer (some ⟨z + 1 + 1 + 1 + 1, 0, none⟩)],
   .func (.func 248) #[] #[.pointer (some ⟨z, 0, none⟩), .pointer (some ⟨z + 1 + 1 + 1 + 1, 0, none⟩), .pointer (some ⟨z + 1, 0, none⟩)],
   .func (.func 80) #[.pointer (some ⟨d, 0, none⟩)] #[]] /\ owk (m + 1) = .other)
def RepOut (w : World) (ow : Nat -> Tag) (d : Nat) (S : DiskS) (a b : ByteArray) (l : List UInt8) (gz : Int) (e : Ending) (w' : World) : Prop := ∃ f ow', e = .returned (.int .i64 0) /\ w.heap.size <= f /\ DiskAt w' ow' d (T5 S a b l gz f) /\ Fr CD ow ow' w w'
theorem Rep.next {ow : Nat -> Tag} {w W : World} {d z m : Nat} {S : DiskS} {a b : ByteArray} {l : List UInt8} {gz : Int} {A : Option Addr} {n c k : Nat} {fl : Bool} (h : Rep ow w W d z m S a b l gz A n c k fl) :
  ∃ f owk, w.heap.size <= f /\ DiskAt W owk d (TK S a b l gz f k) /\ Fr CD ow owk w W /\ ∀ W' f' ow', w.heap.size <= f' -> DiskAt W' ow' d (TK S a b l gz f' (k + 1)) -> Fr CD owk ow' W W' -> Rep ow w W' d z m S a b l gz A n c (k + 1) fl := by
 obtain ⟨f, owk, h1, h2, h3, o0, o1, o2, o3, o4, om, ⟨hr, hrt⟩⟩ := h.go
 refine ⟨f, owk, h1, h2, h3, fun W' f' ow' g1 g2 g3 => ⟨f', ow', g1, g2, h3.trans g3, o0.fr g3, o1.fr g3, o2.fr g3, o3.fr g3, o4.fr g3, om.fr g3, ⟨blk_keepH hr (g3.keep _ hr.lt (by rw [hrt]; exact fun e => e.1 rfl)), (g3.old _ hr.lt).trans hrt⟩⟩⟩
theorem Rep.flag {ow : Nat -> Tag} {w W : World} {d z m : Nat} {S : DiskS} {a b : ByteArray} {l : List UInt8} {gz : Int} {A : Option Addr} {n c k : Nat} {fl : Bool} (h : Rep ow w W d z m S a b l gz A n c k fl) (hm : w.heap.size <= m) : Rep ow w (W.setCell ⟨m, 0, none⟩ (.bool true)) d z m S a b l gz A n c k true := by
 obtain ⟨f, owk, h1, h2, h3, o0, o1, o2, o3, o4, om, ⟨hr, hrt⟩⟩ := h.go
 have hnew : ∀ i, W.heap.size <= i -> owk i = .other := by
  obtain ⟨ms, mf, vc, dvals, hV⟩ := h2
  exact hV.new
 have hk : ∀ t, t ≠ m -> (W.setCell ⟨m, 0, none⟩ (.bool true)).heap[t]? = W.heap[t]? := fun t ht => Below.heap_setCell _ _ _ _ (by exact ht)
 have hFr : Fr (fun t => t = .other) owk owk W (W.setCell ⟨m, 0, none⟩ (.bool true)) := ⟨rfl, rfl, rfl, by rw [size_set]; exact Nat.le_refl _, fun j _ hC => hk j (by rintro rfl; exact hC om.2), fun _ _ => rfl, fun j hj => Or.inl (hnew j hj)⟩
 have ho : ∀ {g : Nat} {t : TypeId} {v : Value}, Own1 owk W g t v -> t ≠ 4 -> Own1 owk (W.setCell ⟨m, 0, none⟩ (.bool true)) g t v := fun {g t v} h ht => ⟨h.1.far (by
  intro e
  have e : g = m := e
  have q1 : W.heap[g]? = some (.cells #[v] t (0, 0)) := h.1
  have q2 : W.heap[m]? = some (.cells #[.bool fl] 4 (0, 0)) := om.1
  rw [e, q2] at q1
  injection q1 with q1
  injection q1 with _ q1
  exact ht q1.symm) _, h.2⟩
 refine ⟨f, owk, h1, ?_, ⟨h3.os, h3.tape, h3.output, by rw [size_set]; exact h3.size, fun i hi hC => (hk i (by omega)).trans (h3.keep i hi hC), h3.old, h3.new⟩, ho o0 (by decide), ho o1 (by decide), ho o2 (by decide), ho o3 (by decide), ho o4 (by decide), ⟨om.1.set_ 0 _, om.2⟩, ⟨hr.far (by show m + 1 ≠ m; omega) _, hrt⟩⟩
 obtain ⟨ms, mf, vc, dvals, hV⟩ := h2
 exact ⟨ms, mf, vc, dvals, hV.keep hFr (fun _ e => e) (fun i hi => hnew i (by rw [size_set] at hi; exact hi))⟩
theorem Rep.done {ow : Nat -> Tag} {w W : World} {d z m : Nat} {S : DiskS} {a b : ByteArray} {l : List UInt8} {gz : Int} {A : Option Addr} {n c : Nat} {fl : Bool} (h : Rep ow w W d z m S a b l gz A n c 5 fl) (hz : w.heap.size <= z) :
  RepOut w ow d S a b l gz (.returned (.int .i64 0)) (W.setCell ⟨z + 1 + 1 + 1, 0, none⟩ (.int .i64 0)) /\ Blk (W.setCell ⟨z + 1 + 1 + 1, 0, none⟩ (.int .i64 0)) (z + 1 + 1 + 1) 24 #[.int .i64 0] /\ (W.setCell ⟨z + 1 + 1 + 1, 0, none⟩ (.int .i64 0)).cell? ⟨m, 0, none⟩ = some (.bool fl) := by
 obtain ⟨f, owk, h1, h2, h3, o0, o1, o2, o3, o4, om, ⟨hr, hrt⟩⟩ := h.go
 have hnew : ∀ i, W.heap.size <= i -> owk i = .other := by
  obtain ⟨ms, mf, vc, dvals, hV⟩ := h2
  exact hV.new
 have hk : ∀ t, t ≠ z + 1 + 1 + 1 -> (W.setCell ⟨z + 1 + 1 + 1, 0, none⟩ (.int .i64 0)).heap[t]? = W.heap[t]? := fun t ht => Below.heap_setCell _ _ _ _ (by exact ht)
 have hFr : Fr (fun t => t = .other) owk owk W (W.setCell ⟨z + 1 + 1 + 1, 0, none⟩ (.int .i64 0)) := ⟨rfl, rfl, rfl, by rw [size_set]; exact Nat.le_refl _, fun j _ hC => hk j (by rintro rfl; exact hC o3.2), fun _ _ => rfl, fun j hj => Or.inl (hnew j hj)⟩
 refine ⟨⟨f, owk, rfl, h1, ?_, ⟨h3.os, h3.tape, h3.output, by rw [size_set]; exact h3.size, fun i hi hC => (hk i (by omega)).trans (h3.keep i hi hC), h3.old, h3.new⟩⟩, o3.1.set_ 0 _, ?_⟩
 ·obtain ⟨ms, mf, vc, dvals, hV⟩ := h2
  exact ⟨ms, mf, vc, dvals, hV.keep hFr (fun _ e => e) (fun i hi => hnew i (by rw [size_set] at hi; exact hi))⟩
 ·refine ((om.1.far (p := ⟨z + 1 + 1 + 1, 0, none⟩) ?_ (.int .i64 0)).cell 0).trans rfl
  intro e
  have e : m = z + 1 + 1 + 1 := e
  have q1 : W.heap[m]? = some (.cells #[.bool fl] 4 (0, 0)) := om.1
  have q2 : W.heap[z + 1 + 1 + 1]? = some (.cells #[.int .i64 0] 24 (0, 0)) := o3.1
  rw [e, q2] at q1
  injection q1 with q1
  injection q1 with _ q1
  exact absurd q1 (by decide)
theorem results_rep (tmps : Array Value) (w : World) (eb : Nat) (n : Int) (h6 : tmps.getD 6 undef = .pointer (some ⟨eb, 0, none⟩)) (he : Blk w eb 24 #[.int .i64 n]) :
  (results Tryz.f205 tmps).run Tryz.prog w = .ok (.int .i64 n) w := by
 have h6' : tmps[6]?.getD undef = .pointer (some ⟨eb, 0, none⟩) := by simpa using h6
 have c0 : w.cell? ⟨eb, 0, none⟩ = some (.int .i64 n) := he.cell 0
 have hl2 : (loadVar 24 ⟨eb, 0, none⟩).run Tryz.prog w = .ok (.int .i64 n) w := by simp [go_sem, c0]
 simp [results, h6', asAddr, hl2]
structure RepH (ow : Nat -> Tag) (w : World) (d : Nat) (S : DiskS) (a b : ByteArray) (l : List UInt8) (gz : Int) (A : Option Addr) (c : Nat) : Prop where
 dead : S.dead = false
 fuse : S.fuse = -1
 ops0 : 0 <= S.ops
 ops1 : S.ops + 5 <= 1099511627776
 gb : GoodN b
 nb : NoEnt S.dir b
 lim : S.lim + S.dchs.length + 8 <= 1073741824
 room : (Maps.size S.dir : Int) < 65536
 used0 : 0 <= S.used
 used1 : S.used + l.length <= S.quota
 quota : S.quota <= 1073741824
 pos : 0 < l.length
 rb : RB w A l
 own : ∀ p, A = some p -> 0 < l.length -> ¬ CD (ow p.block)
 inv : DInv S
 map : IsMap S.dir
 ren : ∀ W owk f, w.heap.size <= f -> DiskAt W owk d (T3 S b l f) -> Calls Tryz.prog 249 #[.pointer (some ⟨d, 0, none⟩), .string b, .string a] W (DOut W owk d (T4 S a b l gz f) (.int .i64 0))
section
variable {ow : Nat -> Tag} {w W : World} {d z m : Nat} {S : DiskS} {a b : ByteArray} {l : List UInt8} {gz : Int} {A : Option Addr} {c : Nat} {fl : Bool}
theorem rep0 (H : RepH ow w d S a b l gz A c) (h : Rep ow w W d z m S a b l gz A l.length c 0 fl) : Calls Tryz.prog 153 #[.pointer (some ⟨d, 0, none⟩), .string b] W (Ret0 fun W' => Rep ow w W' d z m S a b l gz A l.length c 1 fl) := by
 obtain ⟨f, owk, h1, h2, h3, hn⟩ := h.next
 have := H.ops1
 have := H.lim
 refine (create_any W owk d S h2 H.dead H.fuse H.ops0 (by omega) b H.gb H.nb (by omega) H.room).mono ?_
 rintro e W' ⟨f', ow', rfl, g1, g2, g3⟩
 exact ⟨rfl, hn W' f' ow' (Nat.le_trans h3.size g1) g2 g3⟩
theorem rep1 (H : RepH ow w d S a b l gz A c) (h : Rep ow w W d z m S a b l gz A l.length c 1 fl) : Calls Tryz.prog 107 #[.pointer (some ⟨d, 0, none⟩), .string b, .slice A l.length c] W (Ret0 fun W' => Rep ow w W' d z m S a b l gz A l.length c 2 fl) := by
 obtain ⟨f, owk, h1, h2, h3, hn⟩ := h.next
 have := H.ops0
 have := H.ops1
 have := H.lim
 have := H.used0
 have := H.used1
 have := H.quota
 have hRB : RB W A l := H.rb.keep h3.size fun p hp h0 => by
  obtain ⟨g, off, e, hlt, _⟩ := H.rb h0
  refine h3.keep _ ?_ (H.own p hp h0)
  rw [hp] at e
  cases e
  exact hlt
 refine (append_any W owk d f (T1 S b f) ⟨[], [], []⟩ h2 H.dead H.fuse (show 0 <= S.ops + 1 by omega) (show S.ops + 1 <= _ by omega) b H.gb (ent_made H.map b f) (by simp [T1, updF]) A c l H.pos hRB (by simp; omega) (by simp) H.used0 H.used1 H.quota).mono ?_
 rintro e W' ⟨ow', rfl, g2, g3⟩
 exact ⟨rfl, hn W' f ow' h1 g2 g3⟩
theorem rep2 (H : RepH ow w d S a b l gz A c) (h : Rep ow w W d z m S a b l gz A l.length c 2 fl) : Calls Tryz.prog 140 #[.pointer (some ⟨d, 0, none⟩), .string b] W (Ret0 fun W' => Rep ow w W' d z m S a b l gz A l.length c 3 fl) := by
 obtain ⟨f, owk, h1, h2, h3, hn⟩ := h.next
 have := H.ops0
 have := H.ops1
 have := H.used0
 have := H.used1
 have := H.quota
 refine (sync_any W owk d f (T2 S b l f) ⟨[] ++ l, [], [] ++ [.app l]⟩ h2 H.dead H.fuse (show 0 <= S.ops + 1 + 1 by omega) (show S.ops + 1 + 1 <= _ by omega) b H.gb (ent_made H.map b f) (by simp [T2, updF]) (fun k => ?_) (by simp)).mono ?_
 ·cases k with
  | zero => simp [appAll]
  | succ k => simp [appAll, appCh]; omega
 ·rintro e W' ⟨ow', rfl, g2, g3⟩
  exact ⟨rfl, hn W' f ow' h1 g2 g3⟩
theorem rep3 (H : RepH ow w d S a b l gz A c) (h : Rep ow w W d z m S a b l gz A l.length c 3 fl) : Calls Tryz.prog 249 #[.pointer (some ⟨d, 0, none⟩), .string b, .string a] W (Ret0 fun W' => Rep ow w W' d z m S a b l gz A l.length c 4 fl) := by
 obtain ⟨f, owk, h1, h2, h3, hn⟩ := h.next
 refine (H.ren W owk f h1 h2).mono ?_
 rintro e W' ⟨ow', rfl, g2, g3⟩
 exact ⟨rfl, hn W' f ow' h1 g2 g3⟩
theorem rep4 (H : RepH ow w d S a b l gz A c) (h : Rep ow w W d z m S a b l gz A l.length c 4 fl) : Calls Tryz.prog 80 #[.pointer (some ⟨d, 0, none⟩)] W (Ret0 fun W' => Rep ow w W' d z m S a b l gz A l.length c 5 fl) := by
 obtain ⟨f, owk, h1, h2, h3, hn⟩ := h.next
 have := H.ops0
 have := H.ops1
 have := H.lim
 have i1 : DInv (T1 S b f) := H.inv.add (ch := .made b f) trivial rfl rfl rfl
 have i3 : DInv (T3 S b l f) := i1.same rfl rfl rfl
 have i4 : DInv (T4 S a b l gz f) := i3.add (ch := .ren b a) ⟨f, ent_made H.map b f⟩ rfl rfl rfl
 refine (syncdir_any W owk d (T4 S a b l gz f) h2 H.dead H.fuse (show 0 <= S.ops + 1 + 1 + 1 + 1 by omega) (show S.ops + 1 + 1 + 1 + 1 <= _ by omega) i4.2 ?_).mono ?_
 ·show S.lim + 1 + 1 + (S.dchs ++ [DChg.made b f] ++ [DChg.ren b a]).length <= _
  simp
  omega
 ·rintro e W' ⟨ow', rfl, g2, g3⟩
  exact ⟨rfl, hn W' f ow' h1 g2 g3⟩
end
end Go.Proofs.YtendlmdmbkcdnaaGreatDoor.oc
