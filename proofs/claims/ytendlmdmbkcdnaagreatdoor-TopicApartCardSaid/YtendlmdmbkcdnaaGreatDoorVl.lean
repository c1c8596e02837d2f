/-
  Texts of the proof joined by a program: Mab Mac Mad Mae Dkc Maf Hia.
-/
import Derived.Test.YtendlmdmbkcdnaaGreatDoorVk
import Derived.Test.YtendlmdmbkcdnaaGreatDoorVj
set_option linter.unusedSimpArgs false
set_option linter.unusedVariables false
namespace Go.Proofs.YtendlmdmbkcdnaaGreatDoor.ma
open Go.RowKit Go.Maps Go.WideMaps oc rc gh dk
open Go.Lib (hid)
set_option maxRecDepth 100000
set_option maxHeartbeats 8000000 in
theorem prods_ok (w : World) (m : ManS) (H : ManOk m) (A B : Option Addr) (c d : Nat) (h : PrsAt w B m.prods) : Calls Tryz.prog 180 #[.agg (m.cells A B c d)] w fun e w' => e = .returned (.bool true) /\ Below w.heap.size w w' := by
 have HH := hid H
 have HE := hid h
 have l1 := H.plen
 have nx := H.next
 clear H h
 unfold ManS.cells
 go_enter Tryz.func180, Tryz.ntmps180
 obtain ⟨w1, hw1⟩ : ∃ y, w.alloc (.cells #[.int .i64 (m.id : Int), .int .i64 (m.nextSeg : Int), .int .i64 (m.next : Int), .int .i64 (m.mark : Int), .int .i64 (m.clock : Int), .slice A m.segs.length c, .slice B m.prods.length d] 67) = y := ⟨_, rfl⟩
 have HB1 : Hid (Below w.heap.size w w1) := by rw [<- hw1]; exact hid ((Below.refl _ _).alloc (Nat.le_refl _) _)
 have HK1 : Hid (Blk w1 w.heap.size 67 #[.int .i64 (m.id : Int), .int .i64 (m.nextSeg : Int), .int .i64 (m.next : Int), .int .i64 (m.mark : Int), .int .i64 (m.clock : Int), .slice A m.segs.length c, .slice B m.prods.length d]) := by rw [<- hw1]; exact hid (Blk.new w _ _)
 have c6 : w1.cell? ⟨w.heap.size, 6, none⟩ = some (.slice B m.prods.length d) := (HK1.out.cell 6).trans rfl
 have g2 : decide ((64 : Int) < (m.prods.length : Int)) = false := decide_eq_false (by omega)
 have g3 : ¬ 64 < m.prods.length := by omega
 go_wp2_with fail
 clear hw1 c6 g2 g3
 go_loopw [3, 13] (fun l i wr => ∃ (k lp : Nat), k <= m.prods.length /\ i = .int .i64 (k : Int) /\ l = .int .i64 (lp : Int) /\ Hid (∀ p, m.prods[k]? = some p -> lp < p.pid) /\ Hid (Blk wr w.heap.size 67 #[.int .i64 (m.id : Int), .int .i64 (m.nextSeg : Int), .int .i64 (m.next : Int), .int .i64 (m.mark : Int), .int .i64 (m.clock : Int), .slice A m.segs.length c, .slice B m.prods.length d]) /\ Hid (Below w.heap.size w wr)) (fun _ i _ => m.prods.length - (intOf i).toNat)
 case atStart => exact ⟨0, 0, Nat.zero_le _, rfl, rfl, hid (fun p hp => (HH.out.prods p (List.mem_of_getElem? hp)).1), HK1, HB1⟩
 case round =>
  obtain ⟨k, lp, hk, rfl, rfl, HL, HBk, Hbk⟩ := hrel
  by_cases hlt : k < m.prods.length
  ·obtain ⟨e, he⟩ : ∃ e, m.prods[k]? = some e := ⟨_, List.getElem?_eq_getElem hlt⟩
   obtain ⟨b, off, rfl, hbl, hc⟩ := (HE.out.below Hbk.out) (by omega)
   obtain ⟨e0, e1, e2⟩ := hc k e he
   have hmem : e ∈ m.prods := List.mem_of_getElem? he
   obtain ⟨p1, p2, p3, p4, p5⟩ := HH.out.prods e hmem
   have p0 := HL.out e he
   have HEE := hid he
   obtain ⟨pid, seq, po⟩ := e
   dsimp only at e0 e1 e2 p0 p1 p2 p3 p4 p5
   have i1 : decide ((pid : Int) <= (lp : Int)) = false := decide_eq_false (by omega)
   have i1' : ¬ pid <= lp := by omega
   have i2 : decide ((4294967296 : Int) <= (pid : Int)) = false := decide_eq_false (by omega)
   have i2' : ¬ 4294967296 <= pid := by omega
   have i3 : IntKind.i64.wrap ((k : Int) + 1) = (k : Int) + 1 := by rw [IntKind.wrap_i64]; omega
   have i4 : IntKind.i64.wrap ((m.next : Int) - 1) = (m.next : Int) - 1 := by rw [IntKind.wrap_i64]; omega
   have HW1 := hid (fun W => within_is W (seq : Int) 1 1099511627775 true (by simp; omega))
   have HW2 := hid (fun W => within_is W (po : Int) 0 ((m.next : Int) - 1) true (by simp; omega))
   have c2 : ∀ y, (wr.alloc y).cell? ⟨w.heap.size, 2, none⟩ = some (.int .i64 (m.next : Int)) := fun y => ((HBk.out.alloc y).cell 2).trans rfl
   have hne : w.heap.size < wr.heap.size := HBk.out.lt
   have HBA : Hid (∀ y, Below w.heap.size w (wr.alloc y)) := hid (fun y => Hbk.out.alloc Hbk.out.size y)
   have HKA : Hid (∀ y, Blk (wr.alloc y) w.heap.size 67 #[.int .i64 (m.id : Int), .int .i64 (m.nextSeg : Int), .int .i64 (m.next : Int), .int .i64 (m.mark : Int), .int .i64 (m.clock : Int), .slice A m.segs.length c, .slice (some ⟨b, off, none⟩) m.prods.length d]) := hid (fun y => HBk.out.alloc y)
   clear he hc p0 p1 p2 p3 p4 p5 nx hmem HE HBk Hbk HB1 HK1
   go_wp2_with (first
    | (go_at_call 178; (first | with_reducible refine (HW1.out _).mono ?_ | with_reducible refine (HW2.out _).mono ?_ | refine (HW1.out _).mono ?_ | refine (HW2.out _).mono ?_); rintro e w9 ⟨rfl, hw9⟩; rw [hw9]; clear hw9)
    | fail)
   go_roundw
   case rel =>
    refine ⟨k + 1, pid, by omega, by go_num, rfl, hid (fun p hp => ?_), HKA.out _, HBA.out _⟩
    exact HH.out.rise k _ p HEE.out hp
   case measure => simp [intOf]; omega
  ·go_wp2_with fail
   go_ret
   exact ⟨rfl, Hbk.out⟩
theorem mcells_any {w1 : World} {b : Nat} {m : ManS} {A B : Option Addr} {c d : Nat} (h : Blk w1 b 67 (m.cells A B c d)) : ∀ (j : Nat) (v : Value), (m.cells A B c d).toList[j]? = some v -> w1.cell? (Addr.add ⟨b, 0, none⟩ j) = some v := fun j v hj => by
 rw [add_flat, h.cell (0 + j)]
 simpa using hj
set_option maxHeartbeats 8000000 in
theorem check_ok (w : World) (m : ManS) (H : ManOk m) (A B : Option Addr) (c d : Nat) (h1 : IntsAt w A m.segs) (h2 : PrsAt w B m.prods) : Calls Tryz.prog 129 #[.agg (m.cells A B c d)] w fun e w' => e = .returned (.int .i64 0) /\ Below w.heap.size w w' := by
 have HS := hid (fun W (hb : Below w.heap.size w W) => segs_ok W m H A B c d (h1.below hb))
 have HP := hid (fun W (hb : Below w.heap.size w W) => prods_ok W m H A B c d (h2.below hb))
 have q1 : ¬ 1073741824 <= m.id := by have := H.id; omega
 have q2 : ¬ m.nextSeg < 2 := by have := H.next0; omega
 have q3 : ¬ 1073741824 < m.nextSeg := by have := H.next1; omega
 have q4 : decide ((m.id : Int) < 0) = false := decide_eq_false (by omega)
 have q5 : decide ((1073741824 : Int) <= (m.id : Int)) = false := decide_eq_false (by omega)
 have q6 : decide ((m.nextSeg : Int) < 2) = false := decide_eq_false (by omega)
 have q7 : decide ((1073741824 : Int) < (m.nextSeg : Int)) = false := decide_eq_false (by omega)
 have HW1 := hid (fun W => within_is W (m.next : Int) 0 1099511627776 true (by have := H.next; simp; omega))
 have HW2 := hid (fun W => within_is W (m.mark : Int) 0 (m.next : Int) true (by have := H.mark; simp; omega))
 have HW3 := hid (fun W => within_is W (m.clock : Int) 0 1125899906842623 true (by have := H.clock; simp; omega))
 clear H h1 h2
 go_enter Tryz.func129, Tryz.ntmps129
 obtain ⟨w1, hw1⟩ : ∃ y, w.alloc (.cells (m.cells A B c d) 67) = y := ⟨_, rfl⟩
 have HB1 : Hid (Below w.heap.size w w1) := by rw [<- hw1]; exact hid ((Below.refl _ _).alloc (Nat.le_refl _) _)
 have hK1 : Blk w1 w.heap.size 67 (m.cells A B c d) := by rw [<- hw1]; exact Blk.new w _ _
 have HK1 := hid hK1
 have c0 : w1.cell? ⟨w.heap.size, 0, none⟩ = some (.int .i64 (m.id : Int)) := (hK1.cell 0).trans rfl
 have c1 : w1.cell? ⟨w.heap.size, 1, none⟩ = some (.int .i64 (m.nextSeg : Int)) := (hK1.cell 1).trans rfl
 have c2 : w1.cell? ⟨w.heap.size, 2, none⟩ = some (.int .i64 (m.next : Int)) := (hK1.cell 2).trans rfl
 have c3 : w1.cell? ⟨w.heap.size, 3, none⟩ = some (.int .i64 (m.mark : Int)) := (hK1.cell 3).trans rfl
 have c4 : w1.cell? ⟨w.heap.size, 4, none⟩ = some (.int .i64 (m.clock : Int)) := (hK1.cell 4).trans rfl
 have c5 : w1.cell? ⟨w.heap.size, 5, none⟩ = some (.slice A m.segs.length c) := (hK1.cell 5).trans rfl
 have c6 : w1.cell? ⟨w.heap.size, 6, none⟩ = some (.slice B m.prods.length d) := (hK1.cell 6).trans rfl
 unfold ManS.cells at hw1 HS HP ⊢
 clear hK1
 go_wp2_with (first
  | (go_at_call 178; (first | with_reducible refine (HW1.out _).mono ?_ | with_reducible refine (HW2.out _).mono ?_ | with_reducible refine (HW3.out _).mono ?_ | refine (HW1.out _).mono ?_ | refine (HW2.out _).mono ?_ | refine (HW3.out _).mono ?_); rintro e w9 ⟨rfl, hw9⟩; rw [hw9]; clear hw9)
  | fail)
 refine (HS.out _ HB1.out).mono ?_
 rintro e w2 ⟨rfl, hb2⟩
 have HB2 : Hid (Below w.heap.size w w2) := hid (HB1.out.trans (hb2.mono HB1.out.size))
 have hK2 := HK1.out.below hb2 HK1.out.lt
 have c0 : w2.cell? ⟨w.heap.size, 0, none⟩ = some (.int .i64 (m.id : Int)) := (hK2.cell 0).trans rfl
 have c1 : w2.cell? ⟨w.heap.size, 1, none⟩ = some (.int .i64 (m.nextSeg : Int)) := (hK2.cell 1).trans rfl
 have c2 : w2.cell? ⟨w.heap.size, 2, none⟩ = some (.int .i64 (m.next : Int)) := (hK2.cell 2).trans rfl
 have c3 : w2.cell? ⟨w.heap.size, 3, none⟩ = some (.int .i64 (m.mark : Int)) := (hK2.cell 3).trans rfl
 have c4 : w2.cell? ⟨w.heap.size, 4, none⟩ = some (.int .i64 (m.clock : Int)) := (hK2.cell 4).trans rfl
 have c5 : w2.cell? ⟨w.heap.size, 5, none⟩ = some (.slice A m.segs.length c) := (hK2.cell 5).trans rfl
 have c6 : w2.cell? ⟨w.heap.size, 6, none⟩ = some (.slice B m.prods.length d) := (hK2.cell 6).trans rfl
 clear hK2 hb2
 go_wp2_with fail
 refine (HP.out _ HB2.out).mono ?_
 rintro e w3 ⟨rfl, hb3⟩
 have HB3 : Hid (Below w.heap.size w w3) := hid (HB2.out.trans (hb3.mono HB2.out.size))
 clear hb3
 go_wp2_with fail
 go_ret
 exact ⟨rfl, HB3.out⟩
end Go.Proofs.YtendlmdmbkcdnaaGreatDoor.ma
namespace Go.Proofs.YtendlmdmbkcdnaaGreatDoor.oc
open Go.RowKit
open Go.Lib (hid)
set_option maxRecDepth 100000
def KeepT (w w' : World) : Prop := ∀ i, i < w.heap.size -> ∀ (cs : Array Value) (t : TypeId) (fr : Nat × Nat), w.heap[i]? = some (.cells cs t fr) -> t ≠ 289 -> t ≠ 5 -> w'.heap[i]? = w.heap[i]?
theorem KeepT.below {w w' : World} (h : Below w.heap.size w w') : KeepT w w' := fun i hi _ _ _ _ _ _ => h.block i hi
theorem KeepT.trans {a b c : World} (h : KeepT a b) (k : KeepT b c) (hs : a.heap.size <= b.heap.size) : KeepT a c := fun i hi cs t fr hc h1 h2 => by
 have e := h i hi cs t fr hc h1 h2
 exact (k i (Nat.lt_of_lt_of_le hi hs) cs t fr (e.trans hc) h1 h2).trans e
theorem KeepT.blk {w w' : World} {b : Nat} {t : TypeId} {cs : Array Value} (h : KeepT w w') (hb : Blk w b t cs) (h1 : t ≠ 289) (h2 : t ≠ 5) : Blk w' b t cs := (h b hb.lt cs t (0, 0) hb h1 h2).trans hb
theorem raw_k (B g : Nat) (l s : List UInt8) (hn : l.length + s.length <= 1099511627776) (A : Option Addr) (c : Nat) (w : World) (h : Wr w B g l) (hs : RB w A s) : Calls Tryz.prog 116 #[.pointer (some ⟨g, 0, none⟩), .slice A s.length c] w fun e w' => e = .returned (.tuple #[]) /\ Wr w' B g (l ++ s) /\ Below B w w' /\ KeepT w w' := by
 obtain ⟨i0, hi, hz0, hz1, hz2⟩ := info_parts infoB
 obtain ⟨hBg, v, hT, hO⟩ := h
 have c0 : w.cell? ⟨g, 0, none⟩ = some v := (hT.cell 0).trans rfl
 have hBw : B <= w.heap.size := Nat.le_of_lt (Nat.lt_of_le_of_lt hBg hT.lt)
 have hlim : (l.length + s.length) * 1 <= 140737488355328 := by omega
 have hmx : l.length + s.length <= maxLen := by unfold maxLen; omega
 have HT := hid hT
 have HO := hid hO
 have HS := hid hs.reads
 clear hT hO hs
 go_enter Tryz.func116, Tryz.ntmps116
 go_wp2_with (first
  | (at_builtin; go_must (refine wpList_append_any _ rfl _ _ 74 rfl B 5 i0 (.int .u8 0) 1 1 Tryz.underlying74 hi hz0 hz1 hz2 rfl (by decide) v l.length (bc l) rfl HO.out w.heap.size A s.length c (bc s) rfl HS.out (bc_one s) hmx hlim hBw ?_; intro v' w2 hown2 hgr2 _; obtain ⟨A2, k2, rfl⟩ := own_slice hown2; have HO2 := hid hown2; have HG2 := hid hgr2; have HT2 : Hid (Blk w2 g 289 #[v]) := HT.out.grown hgr2 (fun e => own_ne HO.out HT.out (by decide) e.symm); have c2 : w2.cell? ⟨g, 0, none⟩ = some v := (HT2.out.cell 0).trans rfl; have f2 := HT2.out.frozen 0; clear hown2 hgr2 c0))
  | fail)
 go_end0
 refine ⟨rfl, ⟨hBg, .slice A2 _ k2, HT2.out.set_ 0 _, ?_⟩, ?_, ?_⟩
 ·have := own_set (i := 0) HO2.out (own_ne HO2.out HT2.out (by decide)) (.slice A2 (l.length + s.length) k2)
  rwa [List.length_append, bc_append]
 ·exact ((Below.refl _ _).grown HG2.out hBw (fun k hk => (HO.out.lt k hk).1)).setCell (by exact hBg) _
 ·intro i hi cs t fr hc h1 h2
  have h3 : w2.heap[i]? = w.heap[i]? := HG2.out.block i hi (fun e => by
   rcases HO.out.2 with ⟨rfl, _⟩ | ⟨b, cap, cur, rfl, _, hb, _⟩
   ·simp [Value.ownBlock] at e
   ·simp only [Value.ownBlock, Option.some.injEq] at e
    subst e
    rw [hb] at hc
    injection hc with hc
    injection hc with _ hc
    exact h2 hc.symm)
  rw [Below.heap_setCell _ _ _ _ (show i ≠ g from fun e => by
   subst e
   have := HT.out
   unfold Blk at this
   rw [this] at hc
   injection hc with hc
   injection hc with _ hc
   exact h1 hc.symm)]
  exact h3
theorem wuv_k (B g : Nat) (l : List UInt8) (v : Nat) (hv : v < 18446744073709551616) (hn : l.length <= 1099511600000) (w : World) (h : Wr w B g l) : Calls Tryz.prog 167 #[.pointer (some ⟨g, 0, none⟩), .int .u64 (v : Int)] w fun e w' => e = .returned (.tuple #[]) /\ Wr w' B g (l ++ uv 9 v) /\ Below B w w' /\ KeepT w w' := by
  have hBw : B <= w.heap.size := Nat.le_of_lt (Nat.lt_of_le_of_lt h.1 h.lt)
  have hu := uvarint_any 9 v (by have : (128 : Nat) ^ (9 + 1) = 1180591620717411303424 := by decide
                                 omega) (by decide) w w.heap.size (Nat.le_refl _)
  have hul := uv_length 9 v
  have HV := hid hv
  have HU := hid hu
  have HW := hid h
  clear h hu hv
  go_enter Tryz.func167, Tryz.ntmps167
  go_wp2_with fail
  refine HU.out.mono ?_
  rintro e w1 ⟨A, c, rfl, ho, hb1⟩
  have HO := hid ho
  have HB1 := hid hb1
  clear ho hb1
  go_wp2_with fail
  refine (raw_k B g l (uv 9 v) (by omega) A c w1 (HW.out.below HB1.out) (RB.of_own HO.out)).mono ?_
  rintro e w2 ⟨rfl, h2, hb2, hk2⟩
  have H2 := hid h2
  have HB2 := hid hb2
  have HK2 := hid hk2
  clear h2 hb2 hk2
  go_wp2_with fail
  go_end0
  exact ⟨rfl, H2.out, (HB1.out.mono hBw).trans HB2.out, (KeepT.below HB1.out).trans HK2.out HB1.out.size⟩
end Go.Proofs.YtendlmdmbkcdnaaGreatDoor.oc
namespace Go.Proofs.YtendlmdmbkcdnaaGreatDoor.ma
open Go.RowKit Go.Maps Go.WideMaps oc rc gh dk
open Go.Lib (hid)
set_option maxRecDepth 100000
def uvs (l : List Nat) : List UInt8 := l.flatMap (uv 9)
theorem uvs_len (l : List Nat) : (uvs l).length <= 10 * l.length := by
 induction l with
 | nil => simp [uvs]
 | cons x l ih =>
  have := uv_length 9 x
  simp only [uvs, List.flatMap_cons, List.length_append, List.length_cons] at ih ⊢
  omega
theorem uvs_snoc (l : List Nat) (x : Nat) : uvs (l ++ [x]) = uvs l ++ uv 9 x := by simp [uvs]
theorem uvs_app (l k : List Nat) : uvs (l ++ k) = uvs l ++ uvs k := by simp [uvs]
def ManS.heads (m : ManS) : List Nat := [m.id, m.nextSeg, m.next, m.mark, m.clock, m.segs.length]
def prL (p : PrS) : List Nat := [p.pid, p.seq, p.off]
def manNums (m : ManS) : List Nat := m.heads ++ m.segs ++ [m.prods.length] ++ m.prods.flatMap prL
def manN (m : ManS) : List UInt8 := wrapL 179 (uvs (manNums m))
theorem take_succ_some {α : Type} {l : List α} {k : Nat} {x : α} (h : l[k]? = some x) : l.take (k + 1) = l.take k ++ [x] := by
 obtain ⟨h1, rfl⟩ := List.getElem?_eq_some_iff.1 h
 exact List.take_succ_eq_append_getElem h1
theorem prs_len (l : List PrS) : (l.flatMap prL).length = 3 * l.length := by
 induction l with
 | nil => rfl
 | cons x l ih => simp only [List.flatMap_cons, List.length_append, ih, prL, List.length_cons, List.length_nil]; omega
theorem u64_in {x : Nat} (h : x < 9223372036854775808) : IntKind.u64.wrap (x : Int) = (x : Int) := by rw [IntKind.wrap_u64]; omega
def EncAt (w0 wr : World) (l : List Nat) : Prop := Wr wr w0.heap.size w0.heap.size (uvs l) /\ Below w0.heap.size w0 wr
theorem manSize : (Tryz.prog.info? 67).map (·.size) = some 7 := by kernel_rfl
set_option maxHeartbeats 8000000 in
theorem encode_ok (w : World) (m : ManS) (H : ManOk m) (A B : Option Addr) (c d : Nat) (h1 : IntsAt w A m.segs) (h2 : PrsAt w B m.prods) :
  Calls Tryz.prog 204 #[.agg (m.cells A B c d)] w fun e w' => ∃ A' c', e = .returned (.tuple #[.slice A' (manN m).length c', .int .i64 0]) /\ w'.ownsRow w.heap.size 5 1 (.slice A' (manN m).length c') (manN m).length (bc (manN m)) /\ Below w.heap.size w w' := by
 have HC := hid (fun W (hb : Below w.heap.size w W) => check_ok W m H A B c d (h1.below hb) (h2.below hb))
 have HH := hid H
 have HI := hid h1
 have HP := hid h2
 obtain ⟨sgb, sgo, rfl, -, -⟩ := h1 (by have := H.len0; omega)
 clear H h1 h2
 go_enter Tryz.func204, Tryz.ntmps204
 obtain ⟨w1, hw1⟩ : ∃ y, w.alloc (.cells (m.cells (some ⟨sgb, sgo, none⟩) B c d) 67) = y := ⟨_, rfl⟩
 have HB1 : Hid (Below w.heap.size w w1) := by rw [<- hw1]; exact hid ((Below.refl _ _).alloc (Nat.le_refl _) _)
 have HK1 : Hid (Blk w1 w.heap.size 67 (m.cells (some ⟨sgb, sgo, none⟩) B c d)) := by rw [<- hw1]; exact Blk.new w _ _
 have kE := mcells_any HK1.out
 obtain ⟨mc, hmc⟩ : ∃ x, m.cells (some ⟨sgb, sgo, none⟩) B c d = x := ⟨_, rfl⟩
 have HMC := hid hmc
 obtain ⟨ml, hml⟩ : ∃ l, mc = l.toArray := ⟨mc.toList, rfl⟩
 have hmls : (Tryz.prog.info? 67).map (·.size) = some ml.length := by
  have : ml.length = 7 := by rw [hml] at hmc; have := congrArg Array.size hmc; simpa [ManS.cells] using this.symm
  rw [this]
  exact manSize
 subst hml
 rw [hmc] at kE hw1 HC ⊢
 go_wp2_with (first
  | ((with_reducible refine at_op ⟨some 12, .load 67 (.tmp 1), _, _, _, _⟩ ?_); refine wpList_load_list rfl 67 (.tmp 1) rfl ⟨w.heap.size, 0, none⟩ rfl ml kE _ Tryz.underlying67 rfl hmls ?_)
  | fail)
 clear kE hmls hw1 hmc
 refine (HC.out _ HB1.out).mono ?_
 rintro e w2 ⟨rfl, hb2⟩
 have HB2 : Hid (Below w.heap.size w w2) := hid (HB1.out.trans (hb2.mono HB1.out.size))
 have HK2 := hid (HK1.out.below hb2 HK1.out.lt)
 clear hb2 HK1 HB1 HC
 go_wp2_with fail
 refine (writer_new w2.heap.size w2 (Nat.le_refl _)).mono ?_
 rintro e w3 ⟨rfl, hr3, hb3⟩
 have HE3 : Hid (EncAt w2 w3 []) := hid ⟨hr3, hb3⟩
 have hwl : w.heap.size < w2.heap.size := HK2.out.lt
 have HWL := hid hwl
 have hK3 := HK2.out.below hb3 hwl
 have c0 : w3.cell? ⟨w.heap.size, 0, none⟩ = some (.int .i64 (m.id : Int)) := (hK3.cell 0).trans rfl
 have c1 : w3.cell? ⟨w.heap.size, 1, none⟩ = some (.int .i64 (m.nextSeg : Int)) := (hK3.cell 1).trans rfl
 have c2 : w3.cell? ⟨w.heap.size, 2, none⟩ = some (.int .i64 (m.next : Int)) := (hK3.cell 2).trans rfl
 have c3 : w3.cell? ⟨w.heap.size, 3, none⟩ = some (.int .i64 (m.mark : Int)) := (hK3.cell 3).trans rfl
 have c4 : w3.cell? ⟨w.heap.size, 4, none⟩ = some (.int .i64 (m.clock : Int)) := (hK3.cell 4).trans rfl
 have c5 : w3.cell? ⟨w.heap.size, 5, none⟩ = some (.slice (some ⟨sgb, sgo, none⟩) m.segs.length c) := (hK3.cell 5).trans rfl
 clear hr3 hb3 hK3 hwl
 go_wp2_with fail
 clear c0 c1 c2 c3 c4 c5
 obtain ⟨w4, hw4⟩ : ∃ y, w3.alloc (.cells #[.int .i64 (m.id : Int), .int .i64 (m.nextSeg : Int), .int .i64 (m.next : Int), .int .i64 (m.mark : Int), .int .i64 (m.clock : Int), .int .i64 (m.segs.length : Int)] 2) = y := ⟨_, rfl⟩
 have HE4 : Hid (EncAt w2 w4 []) := by rw [<- hw4]; exact hid ⟨⟨HE3.out.1.1, by obtain ⟨v, h1, h2⟩ := HE3.out.1.2; exact ⟨v, h1.alloc _, h2.alloc _⟩⟩, HE3.out.2.alloc HE3.out.2.size _⟩
 have HS4 : Hid (Blk w4 w3.heap.size 2 (m.heads.map fun (x : Nat) => Value.int .i64 (x : Int)).toArray) := by rw [<- hw4]; exact Blk.new w3 _ _
 simp only [hw4]
 clear hw4 HE3
 generalize w3.heap.size = sb at *
 go_loopw [33] (fun i wr => ∃ k : Nat, k <= 6 /\ i = .int .i64 (k : Int) /\ Hid (EncAt w2 wr (m.heads.take k)) /\ Hid (Blk wr sb 2 (m.heads.map fun (x : Nat) => Value.int .i64 (x : Int)).toArray)) (fun i _ => 6 - (intOf i).toNat)
 case atStart => exact ⟨0, by omega, rfl, HE4, HS4⟩
 case round =>
  obtain ⟨k, hk, rfl, HEk, HSk⟩ := hrel
  by_cases hlt : k < 6
  ·obtain ⟨x, hx⟩ : ∃ x, m.heads[k]? = some x := ⟨_, List.getElem?_eq_getElem (by simpa [ManS.heads] using hlt)⟩
   have e0 : wr.cell? ⟨sb, k, none⟩ = some (.int .i64 (x : Int)) := (HSk.out.cell k).trans (by simp [hx])
   have hxb : x < 9223372036854775808 := by
    have hm := List.mem_of_getElem? hx
    have a1 := HH.out.id
    have a2 := HH.out.next1
    have a3 := HH.out.next
    have a4 := HH.out.mark
    have a5 := HH.out.clock
    have a6 := HH.out.len1
    simp only [ManS.heads, List.mem_cons, List.not_mem_nil, or_false] at hm
    rcases hm with rfl | rfl | rfl | rfl | rfl | rfl <;> omega
   have u1 := u64_in hxb
   have i3 : IntKind.i64.wrap ((k : Int) + 1) = (k : Int) + 1 := by rw [IntKind.wrap_i64]; omega
   have HX := hid hx
   have HXB := hid hxb
   clear hx hxb HE4 HS4
   go_wp2_with fail
   refine (wuv_k _ _ _ x (by have := HXB.out; omega) (by have := uvs_len (m.heads.take k); simp at this; omega) wr HEk.out.1).mono ?_
   rintro e w5 ⟨rfl, hr5, hb5, hk5⟩
   have HE5 : Hid (EncAt w2 w5 (m.heads.take (k + 1))) := hid ⟨by rw [take_succ_some HX.out, uvs_snoc]; exact hr5, HEk.out.2.trans hb5⟩
   have HS5 := hid (hk5.blk HSk.out (by decide) (by decide))
   clear hr5 hb5 hk5
   go_wp2_with fail
   go_roundw
   case rel => exact ⟨k + 1, by omega, by go_num, HE5, HS5⟩
   case measure => simp [intOf]; omega
  ·have hk6 : (k : Int) = 6 := by omega
   rw [hk6]
   clear hk6
   obtain rfl : k = 6 := by omega
   have HE6 : Hid (EncAt w2 wr m.heads) := HEk
   have hK6 := HK2.out.below HEk.out.2 HWL.out
   have c5 : wr.cell? ⟨w.heap.size, 5, none⟩ = some (.slice (some ⟨sgb, sgo, none⟩) m.segs.length c) := (hK6.cell 5).trans rfl
   clear HEk HSk HS4 HE4 hK6
   go_wp2_with fail
   clear c5
   go_loopw [45] (fun i wr => ∃ k : Nat, k <= m.segs.length /\ i = .int .i64 (k : Int) /\ Hid (EncAt w2 wr (m.heads ++ m.segs.take k))) (fun i _ => m.segs.length - (intOf i).toNat)
   case atStart => exact ⟨0, Nat.zero_le _, rfl, by simpa using HE6⟩
   case round =>
    obtain ⟨k, hk, rfl, HEk⟩ := hrel
    by_cases hlt : k < m.segs.length
    ·obtain ⟨x, hx⟩ : ∃ x, m.segs[k]? = some x := ⟨_, List.getElem?_eq_getElem hlt⟩
     obtain ⟨b, off, hA, hbl, hc⟩ := (HI.out.below (HB2.out.trans (HEk.out.2.mono HB2.out.size))) (by omega)
     obtain ⟨rfl, rfl⟩ : sgb = b /\ sgo = off := by simpa using hA
     clear hA
     have e0 := hc k x hx
     have hxb : x < 9223372036854775808 := by
      have a2 := HH.out.next1
      have := HH.out.segs x (List.mem_of_getElem? hx)
      omega
     have u1 := u64_in hxb
     have l1 := HH.out.len1
     have i3 : IntKind.i64.wrap ((k : Int) + 1) = (k : Int) + 1 := by rw [IntKind.wrap_i64]; omega
     have HX := hid hx
     have HXB := hid hxb
     clear hx hxb hc HE6
     go_wp2_with fail
     refine (wuv_k _ _ _ x (by have := HXB.out; omega) (by have h1 := uvs_len (m.heads ++ m.segs.take k); have h2 : (m.heads ++ m.segs.take k).length <= 70 := by { simp [ManS.heads]; omega }; omega) wr HEk.out.1).mono ?_
     rintro e w5 ⟨rfl, hr5, hb5, hk5⟩
     have HE5 : Hid (EncAt w2 w5 (m.heads ++ m.segs.take (k + 1))) := hid ⟨by rw [take_succ_some HX.out, <- List.append_assoc, uvs_snoc]; exact hr5, HEk.out.2.trans hb5⟩
     clear hr5 hb5 hk5
     go_wp2_with fail
     go_roundw
     case rel => exact ⟨k + 1, by omega, by go_num, HE5⟩
     case measure => simp [intOf]; omega
    ·obtain rfl : k = m.segs.length := by omega
     have HE7 : Hid (EncAt w2 wr (m.heads ++ m.segs)) := by rw [List.take_length] at HEk; exact HEk
     have hK7 := HK2.out.below HEk.out.2 HWL.out
     have c6 : wr.cell? ⟨w.heap.size, 6, none⟩ = some (.slice B m.prods.length d) := (hK7.cell 6).trans rfl
     have hpl := HH.out.plen
     have u1 := u64_in (x := m.prods.length) (by omega)
     have HPL := hid hpl
     clear HEk HE6 hK7 hpl
     go_wp2_with fail
     refine (wuv_k _ _ _ m.prods.length (by have := HPL.out; omega) (by have h1 := uvs_len (m.heads ++ m.segs); have h3 := HH.out.len1; have h2 : (m.heads ++ m.segs).length <= 70 := by { simp [ManS.heads]; omega }; omega) wr HE7.out.1).mono ?_
     rintro e w5 ⟨rfl, hr5, hb5, hk5⟩
     have HE5 : Hid (EncAt w2 w5 (m.heads ++ m.segs ++ [m.prods.length])) := hid ⟨by rw [uvs_snoc]; exact hr5, HE7.out.2.trans hb5⟩
     have hK8 := HK2.out.below HE5.out.2 HWL.out
     have c6' : w5.cell? ⟨w.heap.size, 6, none⟩ = some (.slice B m.prods.length d) := (hK8.cell 6).trans rfl
     clear hr5 hb5 hk5 hK8 c6 u1 HE7
     go_wp2_with fail
     clear c6'
     go_loopw [63] (fun i wr => ∃ k : Nat, k <= m.prods.length /\ i = .int .i64 (k : Int) /\ Hid (EncAt w2 wr (m.heads ++ m.segs ++ [m.prods.length] ++ (m.prods.take k).flatMap prL))) (fun i _ => m.prods.length - (intOf i).toNat)
     case atStart => exact ⟨0, Nat.zero_le _, rfl, by simpa using HE5⟩
     case round =>
      obtain ⟨k, hk, rfl, HEk⟩ := hrel
      have l1 := HH.out.len1
      have lp := HPL.out
      have HLN : Hid ((uvs (m.heads ++ m.segs ++ [m.prods.length] ++ (m.prods.take k).flatMap prL)).length <= 10000) := hid (by
       have h1 := uvs_len (m.heads ++ m.segs ++ [m.prods.length] ++ (m.prods.take k).flatMap prL)
       have h3 := prs_len (m.prods.take k)
       have h2 : (m.heads ++ m.segs ++ [m.prods.length] ++ (m.prods.take k).flatMap prL).length <= 300 := by
        rw [List.length_append, h3]
        simp [ManS.heads]
        omega
       omega)
      clear HE5
      by_cases hlt : k < m.prods.length
      ·obtain ⟨x, hx⟩ : ∃ x, m.prods[k]? = some x := ⟨_, List.getElem?_eq_getElem hlt⟩
       obtain ⟨b, off, rfl, hbl, hc⟩ := (HP.out.below (HB2.out.trans (HEk.out.2.mono HB2.out.size))) (by omega)
       obtain ⟨e0, e1, e2⟩ := hc k x hx
       obtain ⟨p1, p2, p3, p4, p5⟩ := HH.out.prods x (List.mem_of_getElem? hx)
       have HX := hid hx
       have nx := HH.out.next
       obtain ⟨pid, seq, po⟩ := x
       dsimp only at e0 e1 e2 p1 p2 p3 p4 p5
       have u1 := u64_in (x := pid) (by omega)
       have u2 := u64_in (x := seq) (by omega)
       have u3 := u64_in (x := po) (by omega)
       have i3 : IntKind.i64.wrap ((k : Int) + 1) = (k : Int) + 1 := by rw [IntKind.wrap_i64]; omega
       have Z1 : Hid (pid < 18446744073709551616) := hid (by omega)
       have Z2 : Hid (seq < 18446744073709551616) := hid (by omega)
       have Z3 : Hid (po < 18446744073709551616) := hid (by omega)
       have HBL : Hid (Blk (wr.alloc (.cells #[.int .i64 (pid : Int), .int .i64 (seq : Int), .int .i64 (po : Int)] 208)) wr.heap.size 208 #[.int .i64 (pid : Int), .int .i64 (seq : Int), .int .i64 (po : Int)]) := hid (Blk.new wr _ _)
       have HEA : Hid (EncAt w2 (wr.alloc (.cells #[.int .i64 (pid : Int), .int .i64 (seq : Int), .int .i64 (po : Int)] 208)) (m.heads ++ m.segs ++ [m.prods.length] ++ (m.prods.take k).flatMap prL)) := hid ⟨⟨HEk.out.1.1, by obtain ⟨v, h1, h2⟩ := HEk.out.1.2; exact ⟨v, h1.alloc _, h2.alloc _⟩⟩, HEk.out.2.alloc HEk.out.2.size _⟩
       clear hx hc p1 p2 p3 p4 p5 nx l1 lp
       go_wp2_with fail
       generalize wr.alloc (.cells #[.int .i64 (pid : Int), .int .i64 (seq : Int), .int .i64 (po : Int)] 208) = wa at HBL HEA ⊢
       generalize wr.heap.size = eb at HBL ⊢
       refine (wuv_k _ _ _ pid Z1.out (by have := HLN.out; omega) wa HEA.out.1).mono ?_
       rintro e w6 ⟨rfl, hr6, hb6, hk6⟩
       have HB6 := hid (hk6.blk HBL.out (by decide) (by decide))
       have HR6 := hid hr6
       have HL6 : Hid (Below w2.heap.size w2 w6) := hid (HEA.out.2.trans hb6)
       have f1 : w6.cell? ⟨eb, 1, none⟩ = some (.int .i64 (seq : Int)) := (HB6.out.cell 1).trans rfl
       clear hr6 hb6 hk6 HBL HEA
       go_wp2_with fail
       refine (wuv_k _ _ _ seq Z2.out (by have := HLN.out; have := uv_length 9 pid; simp only [List.length_append]; omega) w6 HR6.out).mono ?_
       rintro e w7 ⟨rfl, hr7, hb7, hk7⟩
       have HB7 := hid (hk7.blk HB6.out (by decide) (by decide))
       have HR7 := hid hr7
       have HL7 : Hid (Below w2.heap.size w2 w7) := hid (HL6.out.trans hb7)
       have f2 : w7.cell? ⟨eb, 2, none⟩ = some (.int .i64 (po : Int)) := (HB7.out.cell 2).trans rfl
       clear hr7 hb7 hk7 HB6 HR6 HL6 f1
       go_wp2_with fail
       refine (wuv_k _ _ _ po Z3.out (by have := HLN.out; have := uv_length 9 pid; have := uv_length 9 seq; simp only [List.length_append]; omega) w7 HR7.out).mono ?_
       rintro e w8 ⟨rfl, hr8, hb8, hk8⟩
       have HE8 : Hid (EncAt w2 w8 (m.heads ++ m.segs ++ [m.prods.length] ++ (m.prods.take (k + 1)).flatMap prL)) := hid ⟨by
        rw [take_succ_some HX.out, List.flatMap_append, <- List.append_assoc, uvs_app]
        simpa [uvs, prL] using hr8, HL7.out.trans hb8⟩
       clear hr8 hb8 hk8 f2
       go_wp2_with fail
       go_roundw
       case rel => exact ⟨k + 1, by omega, by go_num, HE8⟩
       case measure => simp [intOf]; omega
      ·obtain rfl : k = m.prods.length := by omega
       have HE9 : Hid (EncAt w2 wr (manNums m)) := by rw [List.take_length] at HEk; exact HEk
       have HLM : Hid ((uvs (manNums m)).length <= 10000) := by rw [List.take_length] at HLN; exact HLN
       have HMN : Hid (manN m = wrapL 179 (uvs (manNums m))) := hid rfl
       have HR9 : Hid (Wr wr w2.heap.size w2.heap.size (uvs (manNums m))) := hid HE9.out.1
       have HL9 : Hid (Below w2.heap.size w2 wr) := hid HE9.out.2
       clear HE9 HEk HLN
       generalize uvs (manNums m) = bd at *
       go_wp2_with fail
       refine (bytes_any _ _ bd (by have := HLM.out; omega) wr HR9.out wr.heap.size (Nat.le_refl _)).mono ?_
       rintro e w6 ⟨A6, c6, rfl, o6, b6⟩
       have HO6 := hid o6
       have HL6 : Hid (Below w2.heap.size w2 w6) := hid (HL9.out.trans (b6.mono HL9.out.size))
       clear o6 b6
       go_wp2_with fail
       refine (wrap_any 179 bd (by have := HLM.out; omega) A6 c6 w6 (RB.of_own HO6.out)).mono ?_
       rintro e w7 ⟨A7, c7, rfl, o7, b7⟩
       rw [<- HMN.out] at o7 ⊢
       have HO7 := hid o7
       have HL7 : Hid (Below w.heap.size w w7) := hid (HB2.out.trans ((HL6.out.trans (b7.mono HL6.out.size)).mono HB2.out.size))
       have HLE : Hid (w.heap.size <= w6.heap.size) := hid (Nat.le_trans HB2.out.size HL6.out.size)
       clear o7 b7
       go_wp2_with fail
       go_ret2
       exact ⟨A7, c7, rfl, own_less HO7.out HLE.out, HL7.out⟩
end Go.Proofs.YtendlmdmbkcdnaaGreatDoor.ma
namespace Go.Proofs.YtendlmdmbkcdnaaGreatDoor.ma
open Go.RowKit Go.Maps Go.WideMaps oc rc gh dk sg
open Go.Lib (hid)
open Go.Lib (itoa)
set_option maxRecDepth 100000
def manName (id : Int) : List UInt8 := [116] ++ itoa id ++ [46, 109, 97, 110]
def tmpN (l : List UInt8) : List UInt8 := l ++ [46, 116, 109, 112]
theorem good_man {id : Int} (h : okNum id = true) : GoodN (Sb (manName id)) := good_t h (by decide) (by intro c hc; simp at hc; rcases hc with rfl | rfl | rfl | rfl <;> decide)
theorem good_mantmp {id : Int} (h : okNum id = true) : GoodN (Sb (tmpN (manName id))) := by
 have h := good_t h (e := [46, 109, 97, 110, 46, 116, 109, 112]) (by decide) (by intro c hc; simp at hc; rcases hc with rfl | rfl | rfl | rfl | rfl | rfl | rfl | rfl <;> decide)
 simpa [manName, tmpN] using h
set_option maxHeartbeats 4000000 in
theorem name_man (w : World) (id : Int) (h : okNum id = true) (ht : Tab w) :
  Calls Tryz.prog 65 #[.agg #[.int .i64 3, .int .i64 id, .int .i64 0, .bool false]] w fun e w' => e = .returned (.string (Sb (manName id))) /\ Below w.heap.size w w' := by
 have hb := h
 simp only [okNum, Bool.and_eq_true, decide_eq_true_eq] at hb
 have z1 := sb_len id (by omega) (by omega)
 have y1 : ¬ 9223372036854775807 < 1 + (Sb (itoa id)).size := by omega
 have y2 : ¬ 9223372036854775807 < 1 + (Sb (itoa id)).size + 4 := by omega
 have i1 : decide (id < 1073741824) = true := decide_eq_true hb.2
 have i2 : decide (0 <= id) = true := decide_eq_true hb.1
 have HB := hid hb
 have HT := hid (fun W (hW : Below w.heap.size w W) => tab_below ht hW)
 have HE : Hid ((Sb [116] ++ Sb (itoa id)) ++ Sb [46, 109, 97, 110] = Sb (manName id)) := hid (by rw [manName, sb_app, sb_app])
 clear ht hb h
 go_enter Tryz.func65, Tryz.ntmps65
 have HB0 : Hid (∀ y, Below w.heap.size w (w.alloc y)) := hid (fun y => (Below.refl _ _).alloc (Nat.le_refl _) y)
 go_wp2_with (first
  | (go_at_call 63; go_in)
  | fail)
 refine (itoa_any id (by have := HB.out; omega) (by have := HB.out; omega) _ (HT.out _ (HB0.out _))).mono ?_
 rintro e w2 ⟨rfl, hb2⟩
 have HB2 : Hid (Below w.heap.size w w2) := hid ((HB0.out _).trans (hb2.mono (HB0.out _).size))
 have c3 : w2.cell? ⟨w.heap.size, 3, none⟩ = some (.bool false) := (((Blk.new w 94 #[.int .i64 3, .int .i64 id, .int .i64 0, .bool false]).below hb2 (by simp)).cell 3).trans rfl
 clear hb2 HB0
 go_wp2_with fail
 all_goals
  go_ret
  exact ⟨congrArg (fun s => Ending.returned (Value.string s)) HE.out, HB2.out⟩
end Go.Proofs.YtendlmdmbkcdnaaGreatDoor.ma
namespace Go.Proofs.YtendlmdmbkcdnaaGreatDoor.dk
open Go.RowKit Go.Maps Go.WideMaps oc gh
set_option maxRecDepth 100000
def fNew (b : List UInt8) : FileS := fSync (fApp ⟨[], [], []⟩ b)
theorem rb_own {w : World} {G : Gh} {A : Option Addr} {c : Nat} {l : List UInt8} (h : RowR w G 5 1 (.slice A l.length c) l.length (bc l) none) : ∀ p, A = some p -> 0 < l.length -> ¬ CD (G.ow p.block) := fun p hp h0 => by
 obtain ⟨b, hb, _⟩ := own_some h.1 h0
 have ho := (h.2 b hb).1
 rcases h.1.2 with ⟨hn, _⟩ | ⟨g, cap, cur, hv, _⟩
 ·simp only [Value.slice.injEq] at hn
  rw [hn.1] at hp
  cases hp
 ·injection hv with hv
  subst hv
  cases hp
  simp only [Value.ownBlock, Option.some.injEq] at hb
  subst hb
  exact fun hc => hc.1 ho
section
variable (w : World) (G : Gh) (d : Nat) (q : Int) (l : List Fil) (no L : Nat) (a b : ByteArray) (bs : List UInt8) (A : Option Addr) (c : Nat)
def RpOut (y : List Fil) (e : Ending) (w' : World) : Prop := ∃ f, w.heap.size <= f /\ DkOut w G d q (⟨a, f, fNew bs⟩ :: y) (no + 5) (L + 4) (.int .i64 0) e w'
theorem replace_new (hab : a ++ ⟨#[46, 116, 109, 112]⟩ = b) (h : DK w G d q l no L) (hf : Fin G w) (hno : no + 5 <= 1099511627776) (hL : L + 8 <= 1073741824) (ha : GoodN a) (hb : GoodN b) (hna : ∀ y ∈ l, y.name ≠ a) (hnb : ∀ y ∈ l, y.name ≠ b) (hne : a ≠ b) (hl : l.length < 65536)
  (hbs : 0 < bs.length) (hR : RowR w G 5 1 (.slice A bs.length c) bs.length (bc bs) none) (hu : (sumF l + bs.length : Nat) <= q) :
  Calls Tryz.prog 205 #[.pointer (some ⟨d, 0, none⟩), .string a, .slice A bs.length c] w (RpOut w G d q no L a bs l) := by
 have hblk := h.blk
 obtain ⟨S, hD, hk⟩ := h
 have e1 := hk.ops
 have e2 := hk.lim
 have e3 := hk.used
 have e4 := hk.q0
 have e5 := hk.ops0
 have e6 := hk.size
 have e7 := hk.quota
 have k1 : ∀ f, w.heap.size <= f -> DkOk (T1 S b f) q (⟨b, f, ⟨[], [], []⟩⟩ :: l) (no + 1) (L + 2) := fun f hf' => hk.add hnb (fun y hy => by have := hblk y hy; omega) hb hk.tidy.isMap
 have k2 : ∀ f, w.heap.size <= f -> DkOk (T2 S b bs f) q (⟨b, f, fApp ⟨[], [], []⟩ bs⟩ :: l) (no + 2) (L + 2) := fun f hf' => (k1 f hf').turn (fApp ⟨[], [], []⟩ bs) (FilOk.new.app hbs) _ (by show (T1 S b f).used + (bs.length : Int) = (T1 S b f).used + (([] ++ bs).length : Nat) - (([] : List UInt8).length : Nat); simp) (by show S.used + (bs.length : Int) <= q; omega)
 have k3 : ∀ f, w.heap.size <= f -> DkOk (T3 S b bs f) q (⟨b, f, fNew bs⟩ :: l) (no + 3) (L + 2) := fun f hf' => (k2 f hf').turn (fNew bs) (FilOk.new.app hbs).sync (T2 S b bs f).used (by show (T2 S b bs f).used = (T2 S b bs f).used + ((fApp ⟨[], [], []⟩ bs).seen.length : Nat) - ((fApp ⟨[], [], []⟩ bs).seen.length : Nat); omega) (k2 f hf').usedq
 have k4 : ∀ f, w.heap.size <= f -> DkOk (T4 S a b bs 0 f) q (⟨a, f, fNew bs⟩ :: l) (no + 4) (L + 4) := fun f hf' => by
  have := (k3 f hf').ren (s := a) hna hne ha (k3 f hf').tidy.isMap
  rw [show T4 S a b bs 0 f = { T3 S b bs f with dir := doD (T3 S b bs f).dir (.ren b a), dchs := (T3 S b bs f).dchs ++ [.ren b a], lim := (T3 S b bs f).lim + 1, ops := (T3 S b bs f).ops + 1 } by simp [T4]]
  exact this
 have H : RepH G.ow w d S a b bs 0 A c := {
  dead := hk.dead, fuse := hk.fuse, ops0 := e5, ops1 := by omega, gb := hb, nb := hk.no_ b hnb, lim := by omega, room := by rw [e6]; omega, used0 := by omega, used1 := by rw [e7]; omega, quota := by rw [e7]; omega, pos := hbs,
  rb := RB.of_own hR.1, own := rb_own hR, inv := hk.inv, map := hk.tidy.isMap,
  ren := fun W owk f hf' hW => by
   have k := k3 f hf'
   have := k.ops
   have := k.lim
   rw [show T4 S a b bs 0 f = { T3 S b bs f with dir := doD (T3 S b bs f).dir (.ren b a), dchs := (T3 S b bs f).dchs ++ [.ren b a], lim := (T3 S b bs f).lim + 1, ops := (T3 S b bs f).ops + 1 } by simp [T4]]
   exact rename_no W owk d f _ hW k.dead k.fuse k.ops0 (by omega) b a hb ha (by rw [beq_eq_false_iff_ne]; intro e; rw [ByteArray.toList_eq, ByteArray.toList_eq] at e; exact hne (by apply ByteArray.ext; apply Array.ext'; exact e.symm)) k.head.1 (k.no_ a (fun y hy => by rcases List.mem_cons.1 hy with rfl | hy; exact fun e => hne e.symm; exact hna y hy)) (by omega) }
 refine (replace_any w G.ow d S hD a b hab (Nat.le_trans ha.2.1 (by decide)) 0 bs A c H (fun W hW => (size_no W G.ow d S hW hk.dead a ha (hk.no_ a hna)).mono (by rintro e w' ⟨rfl, hb'⟩; exact ⟨_, _, rfl, Or.inr rfl, hb'⟩))).mono ?_
 rintro e w' ⟨f, ow', rfl, hf', hD', hF'⟩
 exact ⟨f, hf', DkOut.of hf ⟨ow', rfl, hD', hF'⟩ (k4 f hf').syncdir⟩
theorem replace_old (x : Fil) (hxa : x.name = a) (hab : a ++ ⟨#[46, 116, 109, 112]⟩ = b) (h : DK w G d q (x :: l) no L) (hf : Fin G w) (hno : no + 5 <= 1099511627776) (hL : L + 8 <= 1073741824) (hb : GoodN b) (hnb : ∀ y ∈ x :: l, y.name ≠ b) (hl : (x :: l).length < 65536)
  (hbs : 0 < bs.length) (hR : RowR w G 5 1 (.slice A bs.length c) bs.length (bc bs) none) (hu : (sumF (x :: l) + bs.length : Nat) <= q) :
  Calls Tryz.prog 205 #[.pointer (some ⟨d, 0, none⟩), .string a, .slice A bs.length c] w (RpOut w G d q no L a bs l) := by
 subst hxa
 have hblk := h.blk
 obtain ⟨S, hD, hk⟩ := h
 have e1 := hk.ops
 have e2 := hk.lim
 have e3 := hk.used
 have e4 := hk.q0
 have e5 := hk.ops0
 have e6 := hk.size
 have e7 := hk.quota
 have e8 := hk.usedq
 have hne : x.name ≠ b := hnb x List.mem_cons_self
 have hg : x.st.seen.length <= sumF (x :: l) := by simp [sumF]
 have k1 : ∀ f, w.heap.size <= f -> DkOk (T1 S b f) q (⟨b, f, ⟨[], [], []⟩⟩ :: x :: l) (no + 1) (L + 2) := fun f hf' => hk.add hnb (fun y hy => by have := hblk y hy; omega) hb hk.tidy.isMap
 have k2 : ∀ f, w.heap.size <= f -> DkOk (T2 S b bs f) q (⟨b, f, fApp ⟨[], [], []⟩ bs⟩ :: x :: l) (no + 2) (L + 2) := fun f hf' => (k1 f hf').turn (fApp ⟨[], [], []⟩ bs) (FilOk.new.app hbs) _ (by show (T1 S b f).used + (bs.length : Int) = (T1 S b f).used + (([] ++ bs).length : Nat) - (([] : List UInt8).length : Nat); simp) (by show S.used + (bs.length : Int) <= q; omega)
 have k3 : ∀ f, w.heap.size <= f -> DkOk (T3 S b bs f) q (⟨b, f, fNew bs⟩ :: x :: l) (no + 3) (L + 2) := fun f hf' => (k2 f hf').turn (fNew bs) (FilOk.new.app hbs).sync (T2 S b bs f).used (by show (T2 S b bs f).used = (T2 S b bs f).used + ((fApp ⟨[], [], []⟩ bs).seen.length : Nat) - ((fApp ⟨[], [], []⟩ bs).seen.length : Nat); omega) (k2 f hf').usedq
 have k4 : ∀ f, w.heap.size <= f -> DkOk (T4 S x.name b bs x.st.seen.length f) q (⟨x.name, f, fNew bs⟩ :: l) (no + 4) (L + 4) := fun f hf' => (k3 f hf').renOver (k3 f hf').tidy.isMap
 have H : RepH G.ow w d S x.name b bs x.st.seen.length A c := {
  dead := hk.dead, fuse := hk.fuse, ops0 := e5, ops1 := by omega, gb := hb, nb := hk.no_ b hnb, lim := by omega, room := by rw [e6]; omega, used0 := by omega, used1 := by rw [e7]; omega, quota := by rw [e7]; omega, pos := hbs,
  rb := RB.of_own hR.1, own := rb_own hR, inv := hk.inv, map := hk.tidy.isMap,
  ren := fun W owk f hf' hW => by
   have k := k3 f hf'
   have := k.ops
   have := k.lim
   have := k.used
   have := k.usedq
   have hx := k.ent x (by simp)
   have hg' : x.st.seen.length <= sumF (⟨b, f, fNew bs⟩ :: x :: l) := by simp [sumF]; omega
   exact rename_yes W owk d f x.blk _ hW k.dead k.fuse k.ops0 (by omega) b x.name hb hx.2.2.2 (by rw [beq_eq_false_iff_ne]; intro e; rw [ByteArray.toList_eq, ByteArray.toList_eq] at e; exact hne (by apply ByteArray.ext; apply Array.ext'; exact e.symm)) k.head.1 hx.1 x.st hx.2.1 (by omega) (by omega) (by omega) }
 refine (replace_any w G.ow d S hD x.name b hab (Nat.le_trans hk.head.2.2.2.2.1 (by decide)) x.st.seen.length bs A c H (fun W hW => (size_yes W G.ow d x.blk S x.st hW hk.dead x.name hk.head.2.2.2 hk.head.1 hk.head.2.1).mono (by rintro e w' ⟨rfl, hb'⟩; exact ⟨_, _, rfl, Or.inl rfl, hb'⟩))).mono ?_
 rintro e w' ⟨f, ow', rfl, hf', hD', hF'⟩
 exact ⟨f, hf', DkOut.of hf ⟨ow', rfl, hD', hF'⟩ (k4 f hf').syncdir⟩
end
end Go.Proofs.YtendlmdmbkcdnaaGreatDoor.dk
namespace Go.Proofs.YtendlmdmbkcdnaaGreatDoor.ma
open Go.RowKit Go.Maps Go.WideMaps oc rc gh dk sg
open Go.Lib (hid)
set_option maxRecDepth 100000
set_option maxHeartbeats 4000000 in
theorem save_any (w : World) (m : ManS) (H : ManOk m) (hk : okNum (m.id : Int) = true) (ht : Tab w) (A B : Option Addr) (c e d : Nat) (h1 : IntsAt w A m.segs) (h2 : PrsAt w B m.prods) (P : Value -> World -> Prop)
  (J : ∀ W A c, Below w.heap.size w W -> W.ownsRow w.heap.size 5 1 (.slice A (manN m).length c) (manN m).length (bc (manN m)) -> Calls Tryz.prog 205 #[.pointer (some ⟨d, 0, none⟩), .string (Sb (manName m.id)), .slice A (manN m).length c] W fun e w' => ∃ v, e = .returned v /\ P v w') :
  Calls Tryz.prog 157 #[.pointer (some ⟨d, 0, none⟩), .agg (m.cells A B c e)] w fun e w' => ∃ v, e = .returned v /\ P v w' := by
 have HC := hid (fun W (hb : Below w.heap.size w W) => encode_ok W m H A B c e (h1.below hb) (h2.below hb))
 have HN := hid (fun W (hb : Below w.heap.size w W) => name_man W m.id hk (tab_below ht hb))
 have HJ := hid J
 clear H h1 h2 J ht hk
 go_enter Tryz.func157, Tryz.ntmps157
 obtain ⟨w1, hw1⟩ : ∃ y, w.alloc (.cells (m.cells A B c e) 67) = y := ⟨_, rfl⟩
 have HB1 : Hid (Below w.heap.size w w1) := by rw [<- hw1]; exact hid ((Below.refl _ _).alloc (Nat.le_refl _) _)
 have HK1 : Hid (Blk w1 w.heap.size 67 (m.cells A B c e)) := by rw [<- hw1]; exact hid (Blk.new w _ _)
 have kE := mcells_any HK1.out
 obtain ⟨mc, hmc⟩ : ∃ x, m.cells A B c e = x := ⟨_, rfl⟩
 have HMC := hid hmc
 obtain ⟨ml, hml⟩ : ∃ l, mc = l.toArray := ⟨mc.toList, rfl⟩
 have hmls : (Tryz.prog.info? 67).map (·.size) = some ml.length := by
  have : ml.length = 7 := by rw [hml] at hmc; have := congrArg Array.size hmc; simpa [ManS.cells] using this.symm
  rw [this]
  exact manSize
 subst hml
 rw [hmc] at kE hw1 HC ⊢
 go_wp2_with (first
  | ((with_reducible refine at_op ⟨some 10, .load 67 (.tmp 3), _, _, _, _⟩ ?_); refine wpList_load_list rfl 67 (.tmp 3) rfl ⟨w.heap.size, 0, none⟩ rfl ml kE _ Tryz.underlying67 rfl hmls ?_)
  | fail)
 clear kE hmls hw1 hmc
 refine (HC.out _ HB1.out).mono ?_
 rintro e2 w2 ⟨A2, c2, rfl, o2, hb2⟩
 have HB2 : Hid (Below w.heap.size w w2) := hid (HB1.out.trans (hb2.mono HB1.out.size))
 have HO2 : Hid (w2.ownsRow w.heap.size 5 1 (.slice A2 (manN m).length c2) (manN m).length (bc (manN m))) := hid (own_less o2 HB1.out.size)
 have hK2 := HK1.out.below hb2 HK1.out.lt
 have k0 : w2.cell? ⟨w.heap.size, 0, none⟩ = some (.int .i64 (m.id : Int)) := by
  refine (hK2.cell 0).trans ?_
  rw [ManS.cells]
  rfl
 clear hb2 HK1 HB1 HC o2 hK2
 go_wp2_with fail
 refine (HN.out _ HB2.out).mono ?_
 rintro e3 w3 ⟨rfl, hb3⟩
 have HB3 : Hid (Below w.heap.size w w3) := hid (HB2.out.trans (hb3.mono HB2.out.size))
 have HO3 := hid (own_below HO2.out hb3)
 clear hb3
 go_wp2_with fail
 refine (HJ.out _ _ _ HB3.out HO3.out).mono ?_
 rintro e4 w4 ⟨v, rfl, hv⟩
 go_wp2_with fail
 go_ret
 exact ⟨v, rfl, hv⟩
end Go.Proofs.YtendlmdmbkcdnaaGreatDoor.ma
namespace Go.Proofs.YtendlmdmbkcdnaaGreatDoor.hi
open Go.RowKit Go.Maps Go.WideMaps oc rc gh dk sg ma
open Go.Lib (hid)
set_option maxRecDepth 100000
structure HE where
 key : ByteArray
 off : Int
 time : Int
 tomb : Bool
 pos : Int
 size : Int
structure HE.Ok (x : HE) : Prop where
 k0 : 1 <= x.key.size
 k1 : x.key.size <= 64
 o0 : 0 <= x.off
 o1 : x.off < 1099511627776
 t0 : 0 <= x.time
 t1 : x.time < 1125899906842624
 p0 : 0 <= x.pos
 p1 : x.pos <= 1073741824
 s0 : 14 <= x.size
 s1 : x.size <= 1124
def HE.cells (x : HE) : Array Value := #[.string x.key, .int .i64 x.off, .int .i64 x.time, .bool x.tomb, .int .i64 x.pos, .int .i64 x.size]
def HesAt (w : World) (A : Option Addr) (l : List HE) : Prop := 0 < l.length -> ∃ b off, A = some ⟨b, off, none⟩ /\ b < w.heap.size /\ ∀ (j : Nat) (x : HE), l[j]? = some x -> w.cell? ⟨b, off + j * 6, none⟩ = some (.string x.key) /\ w.cell? ⟨b, off + j * 6 + 1, none⟩ = some (.int .i64 x.off) /\ w.cell? ⟨b, off + j * 6 + 2, none⟩ = some (.int .i64 x.time) /\ w.cell? ⟨b, off + j * 6 + 3, none⟩ = some (.bool x.tomb) /\ w.cell? ⟨b, off + j * 6 + 4, none⟩ = some (.int .i64 x.pos) /\ w.cell? ⟨b, off + j * 6 + 5, none⟩ = some (.int .i64 x.size)
theorem HesAt.below {w w' : World} {A : Option Addr} {l : List HE} (h : HesAt w A l) (hb : Below w.heap.size w w') : HesAt w' A l := fun h0 => by
 obtain ⟨b, off, rfl, hlt, hc⟩ := h h0
 refine ⟨b, off, rfl, Nat.lt_of_lt_of_le hlt hb.size, fun j e he => ?_⟩
 obtain ⟨h1, h2, h3, h4, h5, h6⟩ := hc j e he
 exact ⟨(hb.cell (by exact hlt)).trans h1, (hb.cell (by exact hlt)).trans h2, (hb.cell (by exact hlt)).trans h3, (hb.cell (by exact hlt)).trans h4, (hb.cell (by exact hlt)).trans h5, (hb.cell (by exact hlt)).trans h6⟩
def rightF (size : Int) : List HE -> Int -> Int -> DataW Unit -> Option (DataW Unit)
 | [], _, _, D => some D
 | x :: l, po, pe, D => if x.off <= po \/ x.pos < pe \/ size - 17 - x.size < x.pos then none else rightF size l x.off (x.pos + x.size) (D.put (Go.Proofs.YtendlmdmbkcdnaaGreatDoor.oc.key x.key) .nil)
def rightO (n : Nat) : Option (DataW Unit) -> Bool
 | none => false
 | some D => (Maps.size D : Int) == (n : Int)
def rightB (size : Int) (l : List HE) : Bool := rightO l.length (rightF size l (-1) 21 (.map []))
theorem drop_some {α : Type} {l : List α} {k : Nat} {x : α} (h : l[k]? = some x) : l.drop k = x :: l.drop (k + 1) := by
 obtain ⟨h1, rfl⟩ := List.getElem?_eq_some_iff.1 h
 exact List.drop_eq_getElem_cons h1
def hintC (seg size : Int) (A : Option Addr) (n c : Nat) : Array Value := #[.int .i64 seg, .int .i64 size, .slice A n c]
set_option maxHeartbeats 8000000 in
theorem right_any (w : World) (seg size : Int) (l : List HE) (H : ∀ x ∈ l, x.Ok) (hl : l.length <= 65536) (g0 : 0 <= seg) (g1 : seg < 1073741824) (z0 : 38 <= size) (z1 : size <= 65536) (A : Option Addr) (c : Nat) (h : HesAt w A l) :
  Calls Tryz.prog 159 #[.agg (hintC seg size A l.length c)] w fun e w' => e = .returned (.bool (rightB size l)) /\ Below w.heap.size w w' := by
 have HH := hid H
 have HE := hid h
 have HL := hid hl
 have q1 : decide (seg < 0) = false := decide_eq_false (by omega)
 have q2 : decide ((1073741824 : Int) <= seg) = false := decide_eq_false (by omega)
 have q3 : decide (size < 38) = false := decide_eq_false (by omega)
 have q4 : decide ((65536 : Int) < size) = false := decide_eq_false (by omega)
 have q5 : IntKind.i64.wrap (size - 17) = size - 17 := by rw [IntKind.wrap_i64]; omega
 have HZ : Hid (38 <= size /\ size <= 65536) := hid ⟨z0, z1⟩
 have hmk : ∀ W, (Instr.makeMap 276 none).run Tryz.prog W = .ok (.map (some W.heap.size)) (W.alloc (.map #[] 0)) := fun W => run_makeMap _ W
 obtain ⟨R, hR⟩ : ∃ R, rightF size l (-1) 21 (.map []) = R := ⟨_, rfl⟩
 have HRB : Hid (rightB size l = rightO l.length R) := hid (by rw [rightB, hR])
 have HR := hid hR
 clear H h hl z0 z1 g0 g1 hR
 unfold hintC
 go_enter Tryz.func159, Tryz.ntmps159
 obtain ⟨w1, hw1⟩ : ∃ y, w.alloc (.cells #[.int .i64 seg, .int .i64 size, .slice A l.length c] 193) = y := ⟨_, rfl⟩
 have HB1 : Hid (Below w.heap.size w w1) := by rw [<- hw1]; exact hid ((Below.refl _ _).alloc (Nat.le_refl _) _)
 have HK1 : Hid (Blk w1 w.heap.size 193 #[.int .i64 seg, .int .i64 size, .slice A l.length c]) := by rw [<- hw1]; exact hid (Blk.new w _ _)
 have c0 : w1.cell? ⟨w.heap.size, 0, none⟩ = some (.int .i64 seg) := (HK1.out.cell 0).trans rfl
 have c1 : w1.cell? ⟨w.heap.size, 1, none⟩ = some (.int .i64 size) := (HK1.out.cell 1).trans rfl
 have c2 : ∀ y, (w1.alloc y).cell? ⟨w.heap.size, 2, none⟩ = some (.slice A l.length c) := fun y => ((HK1.out.alloc y).cell 2).trans rfl
 go_wp2_with fail
 clear hmk hw1 c0 c1 q1 q2 q3 q4
 have HM2 : Hid ((w1.alloc (.map #[] 0)).ownsMap Tryz.prog 9 anyR w1.heap.size 0 (.map [])) := hid (World.ownsMap_made w1 _ _ _)
 have HB2 : Hid (Below w.heap.size w (w1.alloc (.map #[] 0))) := hid (HB1.out.alloc HB1.out.size _)
 have HK2 := hid (HK1.out.alloc (.map #[] 0))
 have HWS : Hid (w.heap.size < w1.heap.size) := hid HK1.out.lt
 clear c2
 generalize w1.alloc (.map #[] 0) = w2 at *
 generalize w1.heap.size = mb at *
 go_loopw [3, 4, 30] (fun o e i wr => ∃ (k : Nat) (D : DataW Unit) (po pe : Int), k <= l.length /\ i = .int .i64 (k : Int) /\ o = .int .i64 po /\ e = .int .i64 pe /\ Hid (Blk wr w.heap.size 193 #[.int .i64 seg, .int .i64 size, .slice A l.length c]) /\ Hid (wr.ownsMap Tryz.prog 9 anyR mb k D) /\ Hid (rightF size (l.drop k) po pe D = R) /\ Hid (Below w.heap.size w wr)) (fun _ _ i _ => l.length - (intOf i).toNat)
 case atStart => exact ⟨0, _, -1, 21, Nat.zero_le _, rfl, rfl, rfl, HK2, HM2, HR, HB2⟩
 case round =>
  obtain ⟨k, D, po, pe, hk, rfl, rfl, rfl, HBk, HMk, HRk, Hbk⟩ := hrel
  clear HM2 HB2 HK2 HB1 HK1
  by_cases hlt : k < l.length
  ·obtain ⟨x, hx⟩ : ∃ x, l[k]? = some x := ⟨_, List.getElem?_eq_getElem hlt⟩
   obtain ⟨b, off, rfl, hbl, hc⟩ := (HE.out.below Hbk.out) (by omega)
   obtain ⟨e0, e1, e2, e3, e4, e5⟩ := hc k x hx
   obtain ⟨k0, k1, o0, o1, t0, t1, p0, p1, s0, s1⟩ := HH.out x (List.mem_of_getElem? hx)
   have hR2 := HRk.out
   rw [drop_some hx, rightF] at hR2
   have HR2 := hid hR2
   obtain ⟨key, xo, xt, tb, xp, xs⟩ := x
   clear hR2
   dsimp only at HR2 e0 e1 e2 e3 e4 e5 k0 k1 o0 o1 t0 t1 p0 p1 s0 s1
   have i1 : decide ((64 : Int) < (key.size : Int)) = false := decide_eq_false (by omega)
   have i2 : decide ((1099511627776 : Int) <= xo) = false := decide_eq_false (by omega)
   have i3 : decide (xt < 0) = false := decide_eq_false (by omega)
   have i4 : decide ((1125899906842624 : Int) <= xt) = false := decide_eq_false (by omega)
   have i5 : decide (xs < 14) = false := decide_eq_false (by omega)
   have i6 : decide ((1124 : Int) < xs) = false := decide_eq_false (by omega)
   have i7 : IntKind.i64.wrap (size - 17 - xs) = size - 17 - xs := by have := HZ.out; rw [IntKind.wrap_i64]; omega
   have i8 : IntKind.i64.wrap (xp + xs) = xp + xs := by rw [IntKind.wrap_i64]; omega
   have i9 : IntKind.i64.wrap ((k : Int) + 1) = (k : Int) + 1 := by have := HL.out; rw [IntKind.wrap_i64]; omega
   have d1 : ∀ y, (wr.alloc y).cell? ⟨w.heap.size, 1, none⟩ = some (.int .i64 size) := fun y => ((HBk.out.alloc y).cell 1).trans rfl
   have hkey := Go.Proofs.YtendlmdmbkcdnaaGreatDoor.oc.keyS key (by omega)
   have HNE : Hid (w.heap.size ≠ mb) := hid (Nat.ne_of_lt HWS.out)
   have HKM : Hid (k + 1 <= maxLen) := hid (by have := HL.out; unfold maxLen; omega)
   have hke : (key.toList == ([] : List UInt8)) = false := by
    rw [beq_eq_false_iff_ne]
    intro hh
    have h2 : key.toList.length = key.size := by rw [ByteArray.toList_eq]; rfl
    rw [hh] at h2
    simp at h2
    omega
   have hke' : ¬ key = (⟨#[]⟩ : ByteArray) := by rintro rfl; exact absurd k0 (by decide)
   have HBA : Hid (∀ y, Below w.heap.size w (wr.alloc y)) := hid (fun y => Hbk.out.alloc Hbk.out.size y)
   have HBX : Hid (Blk (wr.alloc (.cells #[.string key, .int .i64 xo, .int .i64 xt, .bool tb, .int .i64 xp, .int .i64 xs] 279)) wr.heap.size 279 #[.string key, .int .i64 xo, .int .i64 xt, .bool tb, .int .i64 xp, .int .i64 xs]) := hid (Blk.new wr _ _)
   have HNB : Hid (wr.heap.size ≠ mb) := hid (fun h => by have := HMk.out.lt; omega)
   have HMB : Hid (w.heap.size <= mb) := hid (Nat.le_of_lt HWS.out)
   have HMA := hid (fun y => HMk.out.alloc y)
   have HKA := hid (fun y => HBk.out.alloc y)
   clear hx hc k0 k1 o0 o1 t0 t1 p0 p1 s0 s1 HBk HMk
   by_cases u1 : xo <= po
   ·have v1 : decide (xo <= po) = true := decide_eq_true u1
    go_wp2_with fail
    go_ret
    have hr := HR2.out
    rw [if_pos (Or.inl u1)] at hr
    exact ⟨by rw [HRB.out, <- hr]; rfl, HBA.out _⟩
   ·have v1 : decide (xo <= po) = false := decide_eq_false u1
    by_cases u2 : xp < pe
    ·have v2 : decide (xp < pe) = true := decide_eq_true u2
     go_wp2_with fail
     go_ret
     have hr := HR2.out
     rw [if_pos (Or.inr (Or.inl u2))] at hr
     exact ⟨by rw [HRB.out, <- hr]; rfl, HBA.out _⟩
    ·have v2 : decide (xp < pe) = false := decide_eq_false u2
     by_cases u3 : size - 17 - xs < xp
     ·have v3 : decide (size - 17 - xs < xp) = true := decide_eq_true u3
      go_wp2_with fail
      go_ret
      have hr := HR2.out
      rw [if_pos (Or.inr (Or.inr u3))] at hr
      exact ⟨by rw [HRB.out, <- hr]; rfl, HBA.out _⟩
     ·have v3 : decide (size - 17 - xs < xp) = false := decide_eq_false u3
      go_wp2_with (first
       | (at_mapUpdate; go_must (refine wpList_mapUpdate_own _ rfl _ _ _ 276 rfl 9 3 Go.Proofs.YtendlmdmbkcdnaaGreatDoor.oc.lawS Tryz.underlying276 anyR mb k _ rfl (HMA.out _) HKM.out _ _ _ rfl rfl hkey .nil [] rfl ?_; intro w3 hown3 hgrow3; have HO3 := hid hown3; have HG3 := hid hgrow3; have hbx := HBX.out.grown hgrow3 (fun h => by injection h with h; exact HNB.out h); have b1 : w3.cell? ⟨wr.heap.size, 1, none⟩ = some (.int .i64 xo) := (hbx.cell 1).trans rfl; have b4 : w3.cell? ⟨wr.heap.size, 4, none⟩ = some (.int .i64 xp) := (hbx.cell 4).trans rfl; have b5 : w3.cell? ⟨wr.heap.size, 5, none⟩ = some (.int .i64 xs) := (hbx.cell 5).trans rfl; clear hown3 hgrow3 hbx))
       | fail)
      have hr := HR2.out
      rw [if_neg (by omega)] at hr
      have HR3 := hid hr
      clear hr
      have k1 := fun d' os => cell_regrown b1 d' os
      have k4 := fun d' os => cell_regrown b4 d' os
      have k5 := fun d' os => cell_regrown b5 d' os
      clear b1 b4 b5
      refine wp_quiet_tail 8 (by kernel_rfl) (by kernel_rfl) (by kernel_rfl) ?_
      simp only [List.take, List.drop]
      repeat (first | go_big_quiet_skip | (go_big_quiet_want; go_big_quiet_op; go_big_quiet_on))
      refine wpQuiet_nil ?_
      intro w4 hw'
      obtain ⟨⟨dq, osq⟩, hw''⟩ := hw'
      have HB4 : Hid (Below w3.heap.size w3 w4) := by rw [hw'']; exact hid (below_regrown w3 dq osq)
      have HBR3 : Hid (Below w.heap.size w w3) := hid ((HBA.out _).grown HG3.out ((HBA.out _).size) (fun k hk => by injection hk with hk; subst hk; exact HMB.out))
      have HKR3 := hid ((HKA.out _).grown HG3.out (fun h => by injection h with h; exact HNE.out h))
      clear hw'' k1 k4 k5
      go_wp2_with fail
      go_roundw
      case rel => exact ⟨k + 1, _, _, _, by omega, by go_num, rfl, rfl, hid (HKR3.out.below HB4.out HKR3.out.lt), hid (map_keepH HO3.out (HB4.out.block _ HO3.out.lt)), HR3, hid (HBR3.out.trans (HB4.out.mono HBR3.out.size))⟩
      case measure => simp [intOf]; omega
  ·obtain rfl : k = l.length := by omega
   have hln := HMk.out.len Tryz.underlying276
   have c2 : wr.cell? ⟨w.heap.size, 2, none⟩ = some (.slice A l.length c) := (HBk.out.cell 2).trans rfl
   go_wp2_with fail
   go_ret
   have hr := HRk.out
   rw [List.drop_length, rightF] at hr
   exact ⟨by rw [HRB.out, <- hr]; rfl, Hbk.out⟩
end Go.Proofs.YtendlmdmbkcdnaaGreatDoor.hi
