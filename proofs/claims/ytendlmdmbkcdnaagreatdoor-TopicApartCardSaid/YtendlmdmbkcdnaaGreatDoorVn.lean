/-
  Texts of the proof joined by a program: Hif Hig Kdf Qti Kdg.
-/
import Derived.Test.YtendlmdmbkcdnaaGreatDoorVm
import Derived.Test.YtendlmdmbkcdnaaGreatDoorVi
import Derived.Test.YtendlmdmbkcdnaaGreatDoorVg
import Derived.RangeFuncKeeps
import Derived.RangeFuncBound
import Derived.RangeFuncLeaves
import Derived.RangeFuncWrites
import Derived.Shelf.Abstract
import Derived.Shelf.RegionOpen
import Derived.OwnWalkIn
import Derived.TacticsInMore
set_option linter.unusedSimpArgs false
set_option linter.unusedVariables false
namespace Go.Proofs.YtendlmdmbkcdnaaGreatDoor.hi
open Go.RowKit Go.Maps Go.WideMaps Go.Sort Go.Shelf oc rc gh dk sg ma
set_option maxRecDepth 100000
theorem sort_ints (W : World) (B : Nat) (v : Value) (zs : List Int) (h : W.ownsRow B 3 1 v zs.length (zs.map encZ)) (hsz : zs.length < 4611686018427387904) :
  Calls Tryz.prog 158 #[v] W fun e w' => e = .returned (.tuple #[]) /\ w'.ownsRow B 3 1 v zs.length ((zs.mergeSort (fun x y => decide (x <= y))).map encZ) /\ W.grownBy w' v.ownBlock := by
 rcases h.2 with ⟨rfl, hz⟩ | ⟨gb, cap, cur, rfl, hbase, hgb, r1, r2, r3, r4⟩
 ·have hss : zs = [] := List.eq_nil_of_length_eq_zero hz
  subst hss
  refine (AnyM.slices_Sort_int_none Tryz.sortI none 0 W).mono ?_
  rintro e w' ⟨rfl, rfl⟩
  exact ⟨rfl, by simpa using h, World.grownBy.refl _ _⟩
 ·have hH : Holds encZ W gb 0 zs.toArray := holds_of_block_i hgb (by simpa using r4)
  have hgl : gb < W.heap.size := (Array.getElem?_eq_some_iff.1 hgb).1
  refine (AnyM.slices_Sort_int Tryz.sortI gb 0 cap zs W hH hgl hsz).mono ?_
  rintro e w' ⟨rfl, nn, os, rfl⟩
  exact ⟨rfl, ownsRow_sorted_i (by simp) hbase hgb r1 r2 r3, grownBy_sorted_i _⟩
structure Pl where
 r : Rc
 pos : Int
 size : Int
def plC (x : Pl) : List Value := [.int .i64 x.r.kind, .int .i64 x.r.off, .int .i64 x.r.time, .int .i64 x.r.pid, .int .i64 x.r.seq, .string x.r.key, .string x.r.val, .int .i64 x.pos, .int .i64 x.size]
theorem plC_len (l : List Pl) : (l.flatMap plC).length = l.length * 9 := by
 induction l with
 | nil => rfl
 | cons x l ih => simp only [List.flatMap_cons, List.length_append, ih, plC, List.length_cons, List.length_nil]; omega
theorem flat_get {α : Type} (f : α -> List Value) (z : Nat) (hf : ∀ x, (f x).length = z) : ∀ (l : List α) (j i : Nat) (x : α) (v : Value), l[j]? = some x -> (f x)[i]? = some v -> (l.flatMap f)[j * z + i]? = some v
 | [], j, i, x, v, h, _ => by simp at h
 | y :: l, 0, i, x, v, h, hv => by
  simp only [List.getElem?_cons_zero, Option.some.injEq] at h
  subst h
  rw [List.flatMap_cons, List.getElem?_append_left (by rw [Nat.zero_mul, Nat.zero_add]; exact (List.getElem?_eq_some_iff.1 hv).1), Nat.zero_mul, Nat.zero_add]
  exact hv
 | y :: l, j + 1, i, x, v, h, hv => by
  rw [List.getElem?_cons_succ] at h
  rw [List.flatMap_cons, List.getElem?_append_right (by rw [hf, Nat.succ_mul]; omega), hf, show (j + 1) * z + i - z = j * z + i by rw [Nat.succ_mul]; omega]
  exact flat_get f z hf l j i x v h hv
def PlsAt (w : World) (A : Option Addr) (l : List Pl) : Prop := 0 < l.length -> ∃ b, A = some ⟨b, 0, none⟩ /\ b < w.heap.size /\ ∀ (j : Nat) (x : Pl) (i : Nat) (v : Value), l[j]? = some x -> (plC x)[i]? = some v -> w.cell? ⟨b, j * 9 + i, none⟩ = some v
theorem PlsAt.of_own {w : World} {B n c : Nat} {t : TypeId} {A : Option Addr} {l : List Pl} (h : w.ownsRow B t 9 (.slice A n c) n (l.flatMap plC)) : PlsAt w A l := fun h0 => by
 have hl := h.1
 rw [plC_len] at hl
 obtain ⟨g, cap, hv, _, hlt⟩ := h.form (by omega)
 injection hv with h1 h2 h3
 subst h1
 subst h3
 refine ⟨g, rfl, hlt, fun j x i v hj hi => ?_⟩
 have := h.cells (g := g) rfl (j * 9 + i) v (flat_get plC 9 (fun _ => rfl) l j i x v hj hi)
 rwa [add_flat, Nat.zero_add] at this
theorem PlsAt.below {w w' : World} {A : Option Addr} {l : List Pl} (h : PlsAt w A l) (hb : Below w.heap.size w w') : PlsAt w' A l := fun h0 => by
 obtain ⟨b, rfl, hlt, hc⟩ := h h0
 exact ⟨b, rfl, Nat.lt_of_lt_of_le hlt hb.size, fun j x i v hj hi => (hb.cell (by exact hlt)).trans (hc j x i v hj hi)⟩
def heC (x : HE) : List Value := [.string x.key, .int .i64 x.off, .int .i64 x.time, .bool x.tomb, .int .i64 x.pos, .int .i64 x.size]
theorem heC_len (l : List HE) : (l.flatMap heC).length = l.length * 6 := by
 induction l with
 | nil => rfl
 | cons x l ih => simp only [List.flatMap_cons, List.length_append, ih, heC, List.length_cons, List.length_nil]; omega
theorem HesAt.of_own {w : World} {B n c : Nat} {t : TypeId} {A : Option Addr} {l : List HE} (h : w.ownsRow B t 6 (.slice A n c) n (l.flatMap heC)) : HesAt w A l := fun h0 => by
 have hl := h.1
 rw [heC_len] at hl
 obtain ⟨g, cap, hv, _, hlt⟩ := h.form (by omega)
 injection hv with h1 h2 h3
 subst h1
 subst h3
 have hc : ∀ (j : Nat) (x : HE) (i : Nat) (v : Value), l[j]? = some x -> (heC x)[i]? = some v -> w.cell? ⟨g, j * 6 + i, none⟩ = some v := fun j x i v hj hi => by
  have := h.cells (g := g) rfl (j * 6 + i) v (flat_get heC 6 (fun _ => rfl) l j i x v hj hi)
  rwa [add_flat, Nat.zero_add] at this
 refine ⟨g, 0, rfl, hlt, fun j x hj => ?_⟩
 rw [Nat.zero_add]
 exact ⟨hc j x 0 _ hj rfl, hc j x 1 _ hj rfl, hc j x 2 _ hj rfl, hc j x 3 _ hj rfl, hc j x 4 _ hj rfl, hc j x 5 _ hj rfl⟩
def entH (x : Pl) : HE := ⟨x.r.key, x.r.off, x.r.time, x.r.kind == 2, x.pos, x.size⟩
def idxR (N : Nat) : Value -> Option (DataW Unit × List MemPlace)
 | .int .i64 x => if 0 <= x /\ x < (N : Int) then some (.nil, []) else none
 | _ => none
theorem idxR_inv {N : Nat} (v : Value) (y : DataW Unit × List MemPlace) (h : idxR N v = some y) : ∃ c : Int, v = Value.int .i64 c := by
 unfold idxR at h
 split at h
 ·exact ⟨_, rfl⟩
 ·cases h
theorem idxR_lt {N : Nat} {x : Int} {y : DataW Unit × List MemPlace} (h : idxR N (.int .i64 x) = some y) : y = (.nil, []) /\ 0 <= x /\ x < (N : Int) := by
 simp only [idxR] at h
 split at h
 ·rename_i h1
  injection h with h
  exact ⟨h.symm, h1⟩
 ·cases h
theorem idxR_at {N k : Nat} (h : k < N) : idxR N (.int .i64 (k : Int)) = some (.nil, []) := by simp only [idxR]; rw [if_pos (by omega)]
theorem kS_inv (key : Value) (kl : Lit) (h : keyOf Tryz.prog 9 key = some kl) : ∃ x, key = Value.string x := by
 cases key <;> simp [keyOf, Tryz.underlying9, mapKey] at h
 exact ⟨_, rfl⟩
end Go.Proofs.YtendlmdmbkcdnaaGreatDoor.hi
namespace Go.Proofs.YtendlmdmbkcdnaaGreatDoor.hi
open Go.RowKit Go.Maps Go.WideMaps Go.Sort Go.Shelf oc rc gh dk sg ma
open Go.Lib (hid)
set_option maxRecDepth 100000
theorem infoH : (Tryz.prog.info? 279).map (fun i => (i.zero, i.size, i.bytes)) = some (some (.agg #[.string ⟨#[]⟩, .int .i64 0, .int .i64 0, .bool false, .int .i64 0, .int .i64 0]), 6, 56) := by kernel_rfl
def KnAt (w1 wr : World) (N mb k : Nat) : Prop := (∃ D : DataW Unit, wr.ownsMap Tryz.prog 9 (idxR N) mb k D) /\ Below w1.heap.size w1 wr
set_option maxHeartbeats 8000000 in
theorem of_any (w : World) (seg size : Int) (pl : List Pl) (A : Option Addr) (c : Nat) (h : PlsAt w A pl) (hl : pl.length <= 65536) (hk : ∀ x ∈ pl, x.r.key.size <= 64) :
  Calls Tryz.prog 99 #[.int .i64 seg, .int .i64 size, .slice A pl.length c] w fun e w' => ∃ A' c' es, e = .returned (.agg (hintC seg size A' (List.length es) c')) /\ w'.ownsRow w.heap.size 279 6 (.slice A' es.length c') es.length (es.flatMap heC) /\ (∀ x ∈ es, ∃ y ∈ pl, x = entH y) /\ es.length <= pl.length /\ Below w.heap.size w w' := by
 obtain ⟨i0, hi, hz0, hz1, hz2⟩ := info_parts infoI
 obtain ⟨i1, hi1, hz3, hz4, hz5⟩ := info_parts infoH
 have HH := hid h
 have HL := hid hl
 have HK := hid hk
 clear h hl hk
 obtain ⟨N, hN⟩ : ∃ N, pl.length = N := ⟨_, rfl⟩
 have HN := hid hN
 rw [hN] at HL ⊢
 clear hN
 have hmk : ∀ W, (Instr.makeMap 276 none).run Tryz.prog W = .ok (.map (some W.heap.size)) (W.alloc (.map #[] 0)) := fun W => run_makeMap _ W
 obtain ⟨w1, hw1⟩ : ∃ y, (w.alloc (.cells (hintC 0 0 none 0 0) 193)).alloc (.map #[] 0) = y := ⟨_, rfl⟩
 have HB1 : Hid (Below w.heap.size w w1) := by rw [<- hw1]; exact hid (((Below.refl _ _).alloc (Nat.le_refl _) _).alloc (by simp) _)
 have HK1 : Hid (Blk w1 w.heap.size 193 (hintC 0 0 none 0 0)) := by rw [<- hw1]; exact hid ((Blk.new w _ _).alloc _)
 have HM1 : Hid (w1.ownsMap Tryz.prog 9 (idxR N) (w.heap.size + 1) 0 (.map [])) := by
  rw [<- hw1]
  have := World.ownsMap_made (w.alloc (.cells (hintC 0 0 none 0 0) 193)) Tryz.prog 9 (idxR N)
  rw [World.size_alloc] at this
  exact hid this
 have HW1 : Hid (w1.heap.size = w.heap.size + 1 + 1) := by rw [<- hw1]; exact hid (by simp)
 unfold hintC at hw1
 go_enter Tryz.func99, Tryz.ntmps99
 go_wp2_with fail
 try rw [hw1]
 clear hw1 hmk
 generalize hmb : w.heap.size + 1 = mb at *
 go_loopw [20] (fun i wr => ∃ k : Nat, k <= N /\ i = .int .i64 (k : Int) /\ Hid (∃ D : DataW Unit, wr.ownsMap Tryz.prog 9 (idxR N) mb k D) /\ Hid (Blk wr w.heap.size 193 (hintC 0 0 none 0 0)) /\ Hid (Below w.heap.size w wr)) (fun i _ => N - (intOf i).toNat)
 case atStart => exact ⟨0, Nat.zero_le _, rfl, hid ⟨_, HM1.out⟩, HK1, HB1⟩
 case round =>
  obtain ⟨k, hk, rfl, HMk, HKk, HBk⟩ := hrel
  clear HM1 HB1 HK1
  by_cases hlt : k < N
  ·obtain ⟨x, hx⟩ : ∃ x, pl[k]? = some x := ⟨_, List.getElem?_eq_getElem (by rw [HN.out]; exact hlt)⟩
   obtain ⟨b, rfl, hbl, hc⟩ := (HH.out.below HBk.out) (by rw [HN.out]; omega)
   obtain ⟨D, hD⟩ := HMk.out
   have HMD := hid hD
   have hkk := HK.out x (List.mem_of_getElem? hx)
   have e0 : wr.cell? ⟨b, k * 9, none⟩ = some (.int .i64 x.r.kind) := hc k x 0 _ hx rfl
   have e1 := hc k x 1 _ hx rfl
   have e2 := hc k x 2 _ hx rfl
   have e3 := hc k x 3 _ hx rfl
   have e4 := hc k x 4 _ hx rfl
   have e5 := hc k x 5 _ hx rfl
   have e6 := hc k x 6 _ hx rfl
   have e7 := hc k x 7 _ hx rfl
   have e8 := hc k x 8 _ hx rfl
   obtain ⟨⟨x0, x1, x2, x3, x4, x5, x6⟩, x7, x8⟩ := x
   dsimp only at e0 e1 e2 e3 e4 e5 e6 e7 e8 hkk
   have i9 : IntKind.i64.wrap ((k : Int) + 1) = (k : Int) + 1 := by have := HL.out; rw [IntKind.wrap_i64]; omega
   have hkey := Go.Proofs.YtendlmdmbkcdnaaGreatDoor.oc.keyS x5 (by omega)
   have HKM : Hid (k + 1 <= maxLen) := hid (by have := HL.out; unfold maxLen; omega)
   have HLT : Hid (k < N) := hid hlt
   clear hx hc hD HMk hkk
   go_wp2_with (first
    | (at_mapUpdate; go_must (refine wpList_mapUpdate_own _ rfl _ _ _ 276 rfl 9 3 Go.Proofs.YtendlmdmbkcdnaaGreatDoor.oc.lawS Tryz.underlying276 (idxR N) mb k _ rfl (HMD.out.alloc _) HKM.out _ _ _ rfl rfl hkey .nil [] (idxR_at HLT.out) ?_; intro w3 hown3 hgrow3; have HO3 := hid hown3; have HG3 := hid hgrow3; clear hown3 hgrow3))
    | fail)
   go_roundw
   case rel => exact ⟨k + 1, by omega, by go_num, hid ⟨_, HO3.out⟩, hid ((HKk.out.alloc _).grown HG3.out (by simp; omega)), hid ((HBk.out.alloc HBk.out.size _).grown HG3.out (Nat.le_trans HBk.out.size (by simp)) (fun j hj => by injection hj with hj; omega))⟩
   case measure => simp [intOf]; omega
  ·obtain rfl : k = N := by omega
   obtain ⟨D, hD⟩ := HMk.out
   have HMD := hid hD
   clear hD HMk
   go_wp2_with (first
    | (at_range; refine wpList_range_own _ rfl _ 276 rfl 9 3 Go.Proofs.YtendlmdmbkcdnaaGreatDoor.oc.lawS Tryz.underlying276 _ mb k _ rfl HMD.out ?_; intro w0 hrg0 hg0 hs0)
    | fail)
   go_frame
   have HRG0 := hid hrg0
   have hle := HMD.out.size_le
   have HLE := hid hle
   have HBW0 : Hid (Below w.heap.size w w0) := hid (HBk.out.grown hg0 HBk.out.size (fun j hj => by cases hj))
   have HK0 : Hid (Blk w0 w.heap.size 193 (hintC 0 0 none 0 0)) := hid (HKk.out.grown hg0 (by simp))
   have HR0 : Hid (w.heap.size < wr.heap.size /\ w0.heap.size = wr.heap.size + 1 /\ mb < wr.heap.size) := hid ⟨HKk.out.lt, hs0, HMD.out.lt⟩
   generalize wr.heap.size = r at *
   clear hrg0 hg0 hs0 hle HBk HKk
   go_loopw [10] (fun v wr => ∃ (left : Lit -> Bool) (cnt : Nat) (js : List Int) (OA : Option Addr) (oc : Nat), v = .slice OA js.length oc /\ Hid (wr.ranges Tryz.prog 9 (idxR k) mb r k D left cnt) /\ Hid (js.length + cnt <= k) /\ Hid (∀ j ∈ js, 0 <= j /\ j < (k : Int)) /\ Hid (wr.ownsRow w0.heap.size 3 1 (.slice OA js.length oc) js.length (js.map encZ)) /\ Hid (Blk wr w.heap.size 193 (hintC 0 0 none 0 0)) /\ Hid (Below w.heap.size w wr) /\ Hid (w0.heap.size <= wr.heap.size)) (fun _ wr => wr.rangeLeft mb r)
   case atStart => exact ⟨_, _, [], none, 0, rfl, HRG0, hid (by have := HLE.out; simpa using this), hid (fun j hj => by cases hj), hid (World.ownsRow_nil _ _ _ _), HK0, HBW0, hid (Nat.le_refl _)⟩
   case round =>
    obtain ⟨left, cnt, js, OA, oc, rfl, HRG, HCN, HJS, HOR, HKr, HBr, HWr⟩ := hrel
    clear HRG0 HBW0 HK0 HMD
    go_wp2_with (first
     | (at_next; refine wpList_next_ranges _ rfl _ rfl 9 Go.Proofs.YtendlmdmbkcdnaaGreatDoor.oc.lawS (idxR k) Value.string (Value.int .i64) kS_inv idxR_inv mb r k _ _ _ rfl HRG.out ?_ ?_)
     | fail)
    ·intro hc0 hl0
     clear hc0 hl0 HRG
     go_wp2_with fail
     refine (sort_ints wr w0.heap.size (.slice OA js.length oc) js HOR.out (by have := HCN.out; have := HL.out; omega)).mono ?_
     rintro e w4 ⟨rfl, ho4, hg4⟩
     obtain ⟨zs, hzs⟩ : ∃ zs, js.mergeSort (fun x y => decide (x <= y)) = zs := ⟨_, rfl⟩
     have hzl : zs.length = js.length := by rw [<- hzs]; exact List.length_mergeSort js
     have HZ : Hid (∀ z ∈ zs, 0 <= z /\ z < (k : Int)) := hid (fun z hz => HJS.out z ((List.mergeSort_perm js _).mem_iff.1 (hzs ▸ hz)))
     have HZN : Hid (zs.length <= k) := hid (by have := HCN.out; omega)
     rw [hzs, <- hzl] at ho4
     rw [<- hzl]
     have HO4 := hid ho4
     have HK4 := hid (HKr.out.grown hg4 (fun e => by have := (HOR.out.lt _ e.symm).1; have := HR0.out; omega))
     have HB4 : Hid (Below w.heap.size w w4) := hid (HBr.out.grown hg4 HBr.out.size (fun j hj => by have := (HOR.out.lt _ hj).1; have := HR0.out; omega))
     clear ho4 hg4 hzl hzs HJS HCN HOR HKr HBr HWr
     go_wp2_with fail
     obtain ⟨w5, hw5⟩ : ∃ y, w4.alloc (.cells #[.int .i64 seg, .int .i64 size, .slice none 0 0] 193) = y := ⟨_, rfl⟩
     have HB5 : Hid (Below w.heap.size w w5) := by rw [<- hw5]; exact hid (HB4.out.alloc HB4.out.size _)
     have HO5 : Hid (w5.ownsRow w0.heap.size 3 1 (.slice OA zs.length oc) zs.length (zs.map encZ)) := by rw [<- hw5]; exact hid (HO4.out.alloc _)
     have HK5 : Hid (Blk w5 w.heap.size 193 (hintC 0 0 none 0 0)) := by rw [<- hw5]; exact hid (HK4.out.alloc _)
     have HT5 : Hid (Blk w5 w4.heap.size 193 (hintC seg size none 0 0)) := by rw [<- hw5]; exact hid (Blk.new _ _ _)
     have HS5 : Hid (w5.heap.size = w4.heap.size + 1) := by rw [<- hw5]; exact hid (by simp)
     have HOL : Hid (∀ g, Value.ownBlock (.slice OA zs.length oc) = some g -> g < w4.heap.size) := hid (fun g hg => (HO4.out.lt g hg).2)
     have HW4 : Hid (w.heap.size < w4.heap.size) := hid HK4.out.lt
     simp only [hw5]
     clear hw5 HO4 HK4 HB4
     generalize w4.heap.size = hb at *
     go_loopw [48] (fun i wr => ∃ (n : Nat) (es : List HE) (EA : Option Addr) (ec : Nat), n <= zs.length /\ i = .int .i64 (n : Int) /\ Hid (es.length = n) /\ Hid (Blk wr hb 193 (hintC seg size EA es.length ec)) /\ Hid (wr.ownsRow (hb + 1) 279 6 (.slice EA es.length ec) es.length (es.flatMap heC)) /\ Hid (∀ x ∈ es, ∃ y ∈ pl, x = entH y) /\ Hid (wr.ownsRow w0.heap.size 3 1 (.slice OA zs.length oc) zs.length (zs.map encZ)) /\ Hid (Blk wr w.heap.size 193 (hintC 0 0 none 0 0)) /\ Hid (Below w.heap.size w wr) /\ Hid (hb + 1 <= wr.heap.size)) (fun i _ => zs.length - (intOf i).toNat)
     case atStart => exact ⟨0, [], none, 0, Nat.zero_le _, rfl, hid rfl, HT5, hid (World.ownsRow_nil _ _ _ _), hid (fun x hx => by cases hx), HO5, HK5, HB5, hid (by have := HS5.out; omega)⟩
     case round =>
      obtain ⟨n, es, EA, ec, hn, rfl, HEL, HTr, HEr, HPr, HOr, HKr, HBr, HWr⟩ := hrel
      clear HT5 HO5 HK5 HB5 HS5
      by_cases hlt2 : n < zs.length
      ·obtain ⟨z, hz⟩ : ∃ z, zs[n]? = some z := ⟨_, List.getElem?_eq_getElem hlt2⟩
       obtain ⟨g, cap, hv, hgl, f0⟩ := Go.Proofs.YtendlmdmbkcdnaaGreatDoor.dd.own_cell HOr.out (j := n) (u := .int .i64 z) (by simp [hz])
       simp only [Value.slice.injEq, true_and] at hv
       obtain ⟨rfl, rfl⟩ := hv
       obtain ⟨hz0', hz1'⟩ := HZ.out z (List.mem_of_getElem? hz)
       obtain ⟨j, rfl⟩ : ∃ j : Nat, z = (j : Int) := ⟨z.toNat, by omega⟩
       have hjk : j < k := by omega
       obtain ⟨x, hx⟩ : ∃ x, pl[j]? = some x := ⟨_, List.getElem?_eq_getElem (by rw [HN.out]; exact hjk)⟩
       obtain ⟨b, rfl, hbl, hc⟩ := (HH.out.below HBr.out) (by rw [HN.out]; omega)
       have e0 : wr.cell? ⟨b, j * 9, none⟩ = some (.int .i64 x.r.kind) := hc j x 0 _ hx rfl
       have e1 := hc j x 1 _ hx rfl
       have e2 := hc j x 2 _ hx rfl
       have e3 := hc j x 3 _ hx rfl
       have e4 := hc j x 4 _ hx rfl
       have e5 := hc j x 5 _ hx rfl
       have e6 := hc j x 6 _ hx rfl
       have e7 := hc j x 7 _ hx rfl
       have e8 := hc j x 8 _ hx rfl
       have HX : Hid (x ∈ pl) := hid (List.mem_of_getElem? hx)
       obtain ⟨xx, hxx⟩ : ∃ xx, entH x = xx := ⟨_, rfl⟩
       have HXX := hid hxx
       obtain ⟨⟨x0, x1, x2, x3, x4, x5, x6⟩, x7, x8⟩ := x
       dsimp only at e0 e1 e2 e3 e4 e5 e6 e7 e8
       have i9 : IntKind.i64.wrap ((n : Int) + 1) = (n : Int) + 1 := by have := HL.out; have := HZN.out; rw [IntKind.wrap_i64]; omega
       have d2 : ∀ y, (wr.alloc y).cell? ⟨hb, 2, none⟩ = some (.slice EA es.length ec) := fun y => ((HTr.out.alloc y).cell 2).trans rfl
       have HMX : Hid (es.length + 1 <= maxLen) := hid (by have := HEL.out; have := HL.out; have := HZN.out; unfold maxLen; omega)
       have HLM : Hid ((es.length + 1) * 56 <= 140737488355328) := hid (by have := HEL.out; have := HL.out; have := HZN.out; omega)
       clear hz hx hc hz0' hz1' hbl hxx
       have HHC : Hid (heC xx = [.string x5, .int .i64 x1, .int .i64 x2, .bool (x0 == 2), .int .i64 x7, .int .i64 x8]) := hid (by rw [<- HXX.out]; rfl)
       obtain ⟨wa, hwa⟩ : ∃ y, (wr.alloc (.cells #[.int .i64 x0, .int .i64 x1, .int .i64 x2, .int .i64 x3, .int .i64 x4, .string x5, .string x6, .int .i64 x7, .int .i64 x8] 86)).alloc (.cells #[.string x5, .int .i64 x1, .int .i64 x2, .bool (x0 == 2), .int .i64 x7, .int .i64 x8] 279) = y := ⟨_, rfl⟩
       have HCA : Hid (∀ (j : Nat) (u : Value), [Value.string x5, .int .i64 x1, .int .i64 x2, .bool (x0 == 2), .int .i64 x7, .int .i64 x8][j]? = some u -> wa.cell? (Addr.add ⟨wr.heap.size + 1, 0, none⟩ j) = some u) := by
        rw [<- hwa]
        have := Go.Proofs.YtendlmdmbkcdnaaGreatDoor.dd.cells_new (wr.alloc (.cells #[.int .i64 x0, .int .i64 x1, .int .i64 x2, .int .i64 x3, .int .i64 x4, .string x5, .string x6, .int .i64 x7, .int .i64 x8] 86)) 279 [Value.string x5, .int .i64 x1, .int .i64 x2, .bool (x0 == 2), .int .i64 x7, .int .i64 x8]
        rw [World.size_alloc] at this
        exact hid this
       have HTA : Hid (Blk wa hb 193 (hintC seg size EA es.length ec)) := by rw [<- hwa]; exact hid ((HTr.out.alloc _).alloc _)
       have HEA : Hid (wa.ownsRow (hb + 1) 279 6 (.slice EA es.length ec) es.length (es.flatMap heC)) := by rw [<- hwa]; exact hid ((HEr.out.alloc _).alloc _)
       have HOA : Hid (wa.ownsRow w0.heap.size 3 1 (.slice (some ⟨g, 0, none⟩) zs.length oc) zs.length (zs.map encZ)) := by rw [<- hwa]; exact hid ((HOr.out.alloc _).alloc _)
       have HKA : Hid (Blk wa w.heap.size 193 (hintC 0 0 none 0 0)) := by rw [<- hwa]; exact hid ((HKr.out.alloc _).alloc _)
       have HBA : Hid (Below w.heap.size w wa) := by rw [<- hwa]; exact hid ((HBr.out.alloc HBr.out.size _).alloc (Nat.le_trans HBr.out.size (by simp)) _)
       have HWA : Hid (hb + 1 <= wa.heap.size) := by rw [<- hwa]; exact hid (Nat.le_trans HWr.out (by simp; omega))
       clear HTr HEr HOr HKr HBr
       go_wp2_with (first
        | (at_builtin; go_must (refine wpList_append_own_at _ rfl _ _ 191 rfl (hb + 1) 279 i1 _ 6 56 Tryz.underlying191 hi1 hz3 hz4 hz5 rfl (by decide) (.slice EA es.length ec) es.length _ rfl HEA.out ⟨wr.heap.size + 1, 0, none⟩ 1 1 [Value.string x5, .int .i64 x1, .int .i64 x2, .bool (x0 == 2), .int .i64 x7, .int .i64 x8] rfl rfl HCA.out (by simp [Value.oneCell']) HMX.out HLM.out HWA.out ?_; intro v3 w3 hown3 hgr3 _ hloc3; obtain ⟨A3, c3, rfl⟩ := own_slice hown3; have HO3 := hid hown3; have HG3 := hid hgr3; have HT3 : Hid (Blk w3 hb 193 (hintC seg size EA es.length ec)) := hid (HTA.out.grown hgr3 (fun e => by have := (HEA.out.lt _ e.symm).1; omega)); have f2 : w3.frozen? ⟨hb, 2, none⟩ = false := HT3.out.frozen 2; have d3 : w3.cell? ⟨hb, 2, none⟩ = some (.slice EA es.length ec) := (HT3.out.cell 2).trans rfl; clear hown3 hgr3 hloc3))
        | fail)
       have HX3 : Hid (heC xx = [Value.string x5, .int .i64 x1, .int .i64 x2, .bool (x0 == 2), .int .i64 x7, .int .i64 x8]) := HHC
       have HEQ : Hid ((es ++ [xx]).flatMap heC = es.flatMap heC ++ [Value.string x5, .int .i64 x1, .int .i64 x2, .bool (x0 == 2), .int .i64 x7, .int .i64 x8]) := hid (by rw [List.flatMap_append, <- HX3.out]; simp)
       have hBW : ∀ j, Value.ownBlock (.slice EA es.length ec) = some j -> hb + 1 <= j := fun j hj => (HEA.out.lt j hj).1
       have hgh : g < hb := HOL.out g rfl
       go_roundw
       case rel =>
        refine ⟨n + 1, es ++ [xx], A3, c3, by omega, by go_num, hid (by have := HEL.out; simp; omega), hid ?_, hid ?_, hid ?_, hid ?_, hid ?_, hid ?_, hid ?_⟩
        ·have := HT3.out.set_ 2 (.slice A3 (es.length + 1) c3)
         rw [List.length_append]
         exact this
        ·have := own_set (g := hb) (i := 2) HO3.out (fun e => by have := (HO3.out.lt _ e).1; omega) (.slice A3 (es.length + 1) c3)
         rw [List.length_append, HEQ.out]
         exact this
        ·intro y hy
         rcases List.mem_append.1 hy with hy | hy
         ·exact HPr.out y hy
         ·rw [List.mem_singleton] at hy; subst hy; exact ⟨_, HX.out, HXX.out.symm⟩
        ·have hOO : w3.ownsRow w0.heap.size 3 1 (.slice (some ⟨g, 0, none⟩) zs.length oc) zs.length (zs.map encZ) := own_keepH HOA.out (fun j hj => HG3.out.block j (HOA.out.lt j hj).2 (fun e => by
          have h1 := hBW j e.symm
          simp only [Value.ownBlock, Option.some.injEq] at hj
          subst hj
          exact absurd hgh (by omega)))
         exact own_set (g := hb) (i := 2) hOO (fun e => by
          simp only [Value.ownBlock, Option.some.injEq] at e
          subst e
          exact absurd hgh (by omega)) (.slice A3 (es.length + 1) c3)
        ·exact (HKA.out.grown HG3.out (fun e => by have := hBW _ e.symm; have := HW4.out; omega)).far (by have := HW4.out; simp; omega) _
        ·exact (HBA.out.grown HG3.out HBA.out.size (fun j hj => by have := hBW j hj; have := HW4.out; omega)).setCell (by have := HW4.out; simp; omega) _
        ·rw [size_set]; exact Nat.le_trans HWA.out HG3.out.size
       case measure => simp [intOf]; omega
      ·obtain rfl : n = zs.length := by omega
       have k0 : wr.cell? ⟨hb, 0, none⟩ = some (.int .i64 seg) := (HTr.out.cell 0).trans rfl
       have k1 : wr.cell? ⟨hb, 1, none⟩ = some (.int .i64 size) := (HTr.out.cell 1).trans rfl
       have k2 : wr.cell? ⟨hb, 2, none⟩ = some (.slice EA es.length ec) := (HTr.out.cell 2).trans rfl
       go_wp2_with (first
        | ((with_reducible refine at_op ⟨none, .store 193 (.tmp 6) (.tmp 80), _, _, _, _⟩ ?_); refine wpList_store_blk rfl 193 (.tmp 6) (.tmp 80) rfl w.heap.size 0 rfl [.int .i64 seg, .int .i64 size, .slice EA es.length ec] rfl (by simp [Value.oneCell']) 193 _ HKr.out (by simp [hintC]) (by kernel_rfl) ?_; intro w9 hT9 hg9 hs9; have HT9 := hid hT9; have HG9 := hid hg9; clear hT9 hg9 hs9)
        | fail)
       refine bodyPost_ret (results_cell_row rfl _ _ w.heap.size 193 (hintC seg size EA es.length ec) (0, 0) _ rfl HT9.out Tryz.underlying193 rfl (by kernel_rfl)) rfl ?_
       exact ⟨EA, ec, es, rfl, own_less (own_keepH HEr.out (fun j hj => HG9.out.block j (HEr.out.lt j hj).2 (fun e => by have := (HEr.out.lt j hj).1; have := HW4.out; injection e with e; omega))) (by have := HW4.out; omega), HPr.out, by have := HEL.out; have := HZN.out; omega, HBr.out.grown HG9.out HBr.out.size (fun j hj => by injection hj with hj; omega)⟩
    ·intro x cv kl y1 y2 w1 cnt1 hwx hlx hy hat hrg1 hlt hg1 hs1 hen
     obtain ⟨-, hj0, hj1⟩ := idxR_lt hy
     have HRG1 := hid hrg1
     have HCT : Hid (cnt1 < cnt) := hid hlt
     have HJ : Hid (0 <= cv /\ cv < (k : Int)) := hid ⟨hj0, hj1⟩
     have HO1 : Hid (w1.ownsRow w0.heap.size 3 1 (.slice OA js.length oc) js.length (js.map encZ)) := hid (own_keepH HOR.out (fun g hg => hg1.block g (HOR.out.lt g hg).2 (fun e => by injection e with e; have := (HOR.out.lt g hg).1; have := HR0.out.2.1; omega)))
     have HK1 := hid (HKr.out.grown hg1 (fun e => by injection e with e; have := HR0.out.1; omega))
     have HBX : Hid (Below w.heap.size w w1) := hid (HBr.out.grown hg1 HBr.out.size (fun j hj => by injection hj with hj; have := HR0.out.1; omega))
     have HS1 : Hid (w0.heap.size <= w1.heap.size) := hid (by have := HWr.out; omega)
     have HMX : Hid (js.length + 1 <= maxLen) := hid (by have := HCN.out; have := HL.out; unfold maxLen; omega)
     have HLM : Hid ((js.length + 1) * 8 <= 140737488355328) := hid (by have := HCN.out; have := HL.out; omega)
     clear hwx hlx hy hat hrg1 hlt hj0 hj1 hg1 hs1
     go_wp2_with (first
      | (at_builtin; go_must (refine wpList_append_own_at _ rfl _ _ 64 rfl w0.heap.size 3 i0 (.int .i64 0) 1 8 Tryz.underlying64 hi hz0 hz1 hz2 rfl (by decide) (.slice OA js.length oc) js.length _ rfl (HO1.out.alloc _) ⟨w1.heap.size, 0, none⟩ 1 1 [.int .i64 cv] rfl rfl (cell_one_new _ _ _) (by simp [Value.oneCell']) HMX.out HLM.out (Nat.le_trans HS1.out (by simp)) ?_; intro v3 w3 hown3 hgr3 _ hloc3; obtain ⟨A3, c3, rfl⟩ := own_slice hown3; have HO3 := hid hown3; have HG3 := hid hgr3; clear hown3 hgr3 hloc3))
      | fail)
     have HRG3 := hid ((HRG1.out.alloc (.cells #[.int .i64 cv] 3)).kept HG3.out (fun e => by have := (HO1.out.lt _ e.symm).1; have := HR0.out; omega) (fun e => by have := (HO1.out.lt _ e.symm).1; have := HR0.out; omega))
     go_roundw
     case rel =>
      refine ⟨_, cnt1, js ++ [cv], A3, c3, by simp, HRG3, hid ?_, hid ?_, hid ?_, hid ((HK1.out.alloc _).grown HG3.out (fun e => ?_)), hid ((HBX.out.alloc HBX.out.size _).grown HG3.out (Nat.le_trans HBX.out.size (by simp)) (fun j hj => ?_)), hid (Nat.le_trans HS1.out (Nat.le_trans (by simp) HG3.out.size))⟩
      ·have := HCN.out; have := HCT.out; simp; omega
      ·intro j hj
       rcases List.mem_append.1 hj with hj | hj
       ·exact HJS.out j hj
       ·rw [List.mem_singleton] at hj; subst hj; exact HJ.out
      ·have := HO3.out; simpa using this
      ·have := (HO1.out.lt _ e.symm).1; have := HR0.out; omega
      ·have := (HO1.out.lt _ hj).1; have := HR0.out; omega
     case measure => rw [HRG3.out.left_eq, HRG.out.left_eq]; exact HCT.out
end Go.Proofs.YtendlmdmbkcdnaaGreatDoor.hi
namespace Go.Proofs.YtendlmdmbkcdnaaGreatDoor.kd
open Go.RowKit oc
open Go.Lib (hid)
set_option maxRecDepth 100000
def noteB (key : ByteArray) (e : KE) (t : KT) : Bool := (findT key t).isSome && decide (e.off <= (entOf (findT key t)).off)
def noteT (key : ByteArray) (e : KE) (t : KT) : KT := if noteB key e t then t else withT key e t
def NoteOut (w : World) (F : Nat -> Prop) (d : Nat) (t' : KT) (e : Ending) (w' : World) : Prop := (∃ b, e = .returned (.tuple #[.bool b, .int .i64 0])) /\ DirAt w' F d t' /\ w.grownBy w' (some d)
theorem grown_below {w w' : World} {d : Option Nat} (h : Below w.heap.size w w') : w.grownBy w' d := ⟨h.os, h.tape, h.output, h.size, fun i hi _ => h.block i hi⟩
set_option maxHeartbeats 4000000 in
theorem note_any (w : World) (F : Nat -> Prop) (hF : ∀ i, w.heap.size <= i -> F i) (d0 : Nat) (hd : ¬ F d0) (t : KT) (key : ByteArray) (e : KE) (h : DirAt w F d0 t) (hs : t.short) (hk1 : 1 <= key.size) (hk : key.size <= 64) (hn : t.count + 1 <= 1099511627776) :
  Calls Tryz.prog 141 #[.pointer (some ⟨d0, 0, none⟩), .string key, .agg e.cells] w (NoteOut w F d0 (noteT key e t)) := by
 have HG := hid (fun W hb => get_any W F d0 t key (h.below hb) hs hk)
 have HRF := hid (fun W => refused_ok W d0 key hk1 hk)
 have hdl : d0 < w.heap.size := by obtain ⟨p, h1, _⟩ := h; exact h1.lt
 obtain ⟨nb, hnb⟩ : ∃ b, noteB key e t = b := ⟨_, rfl⟩
 have hNT : noteT key e t = if nb then t else withT key e t := by rw [noteT, hnb]
 obtain ⟨T, hT⟩ : ∃ T, noteT key e t = T := ⟨_, rfl⟩
 rw [hT] at hNT ⊢
 have HNT := hid hNT
 have HH := hid h
 have HW := fun W p x hi hx ht => with_any F key e hk t W p x hi hx ht hs hn
 have HWW := hid HW
 have HF := hid hF
 have HDL := hid hdl
 have HD := hid hd
 unfold noteB at hnb
 generalize findT key t = o at HG hnb
 obtain ⟨a1, a2, a3, a4, a5, a6⟩ := e
 have HNB := hid hnb
 clear h hs hk1 hk hn hdl hNT hT HW hF hd hnb
 simp only [KE.cells]
 go_enter Tryz.func141, Tryz.ntmps141
 have HB0 : Hid (∀ y, Below w.heap.size w (w.alloc y)) := hid (fun y => (Below.refl _ _).alloc (Nat.le_refl _) y)
 go_wp2_with (first
  | (go_at_call 186; refine (HRF.out _).mono ?_; rintro e w1 ⟨rfl, hw1⟩; rw [hw1]; clear hw1)
  | fail)
 obtain ⟨w0, hw0⟩ : ∃ x, w.alloc (.cells #[.int .i64 a1, .int .i64 a2, .int .i64 a3, .int .i64 a4, .int .i64 a5, .bool a6] 117) = x := ⟨_, rfl⟩
 have HB1 : Hid (Below w.heap.size w w0) := by rw [<- hw0]; exact HB0.out _
 have HK0 : Hid (Blk w0 w.heap.size 117 #[.int .i64 a1, .int .i64 a2, .int .i64 a3, .int .i64 a4, .int .i64 a5, .bool a6]) := by rw [<- hw0]; exact hid (Blk.new w _ _)
 simp only [hw0]
 clear hw0 HB0
 refine (HG.out _ HB1.out).mono ?_
 rintro e w2 ⟨rfl, hb2⟩
 have HB2 : Hid (Below w0.heap.size w0 w2) := hid hb2
 clear hb2 HG HRF
 generalize hen : entOf o = en at HNB ⊢
 obtain ⟨b1, b2, b3, b4, b5, b6⟩ := en
 have HK2 := hid (HK0.out.below HB2.out HK0.out.lt)
 have k3 : ∀ y, (w2.alloc y).cell? ⟨w.heap.size, 3, none⟩ = some (.int .i64 a4) := fun y => ((HK2.out.alloc y).cell 3).trans rfl
 clear hen
 cases hsm : o.isSome with
 | true =>
  have hx := HNB.out
  rw [hsm] at hx
  simp only [KE.cells, Bool.true_and] at hx ⊢
  cases nb with
  | true =>
   go_wp2_with fail
   go_ret2
   have hx2 := HNT.out
   simp only [if_true] at hx2
   subst hx2
   have hb : Below w.heap.size w _ := (HB1.out.trans (HB2.out.mono HB1.out.size)).trans ((Below.refl _ _).alloc (HB1.out.trans (HB2.out.mono HB1.out.size)).size (.cells #[.int .i64 b1, .int .i64 b2, .int .i64 b3, .int .i64 b4, .int .i64 b5, .bool b6] 117))
   exact ⟨⟨_, rfl⟩, HH.out.below hb, grown_below hb⟩
  | false =>
   go_wp2_with fail
   obtain ⟨w3, hw3⟩ : ∃ x, w2.alloc (.cells #[.int .i64 b1, .int .i64 b2, .int .i64 b3, .int .i64 b4, .int .i64 b5, .bool b6] 117) = x := ⟨_, rfl⟩
   have HB3 : Hid (Below w.heap.size w w3) := by rw [<- hw3]; exact (HB1.out.trans (HB2.out.mono HB1.out.size)).trans ((Below.refl _ _).alloc (HB1.out.trans (HB2.out.mono HB1.out.size)).size _)
   have HK3 : Hid (Blk w3 w.heap.size 117 #[.int .i64 a1, .int .i64 a2, .int .i64 a3, .int .i64 a4, .int .i64 a5, .bool a6]) := by rw [<- hw3]; exact HK2.out.alloc _
   simp only [hw3]
   clear hw3 k3
   obtain ⟨p, hBd, hTr⟩ := HH.out.below HB3.out
   obtain ⟨x, hxp⟩ : ∃ x, pv p = .pointer x := ⟨_, rfl⟩
   rw [hxp] at hBd
   have HBD := hid hBd
   have HTR := hid hTr
   clear hBd hTr
   have kR := fun d os => cell_regrown (show w3.cell? ⟨d0, 0, none⟩ = some (.pointer x) from (HBD.out.cell 0).trans rfl) d os
   have kE := regrown_cells HK3.out 0 [.int .i64 a1, .int .i64 a2, .int .i64 a3, .int .i64 a4, .int .i64 a5, .bool a6] (fun j v h => by simpa using h)
   refine wp_quiet_tail1 7 (by kernel_rfl) (by kernel_rfl) (by kernel_rfl) (by kernel_rfl) (by kernel_rfl) (.pointer (some ⟨d0, 0, none⟩)) (Or.inl ⟨by rfl, fun _ => rfl⟩) (fun _ _ _ h => h) ?_
   simp only [List.take_succ_cons, List.take_zero, List.drop_succ_cons, List.drop_zero, Act.put, List.setIfInBounds_toArray, List.set_cons_succ, List.set_cons_zero]
   repeat (first | go_big_quiet_skip | (with_reducible refine wpQuiet_load_list (o := ⟨some 37, .load 117 (.tmp 5), _, _, _, _⟩) rfl 117 (.tmp 5) rfl ⟨w.heap.size, 0, none⟩ rfl [.int .i64 a1, .int .i64 a2, .int .i64 a3, .int .i64 a4, .int .i64 a5, .bool a6] kE _ Tryz.underlying117 rfl (by kernel_rfl) ?_; simp only [Act.put, List.setIfInBounds_toArray, List.set_cons_succ, List.set_cons_zero]) | (go_big_quiet_want; go_big_quiet_op; go_big_quiet_on))
   refine wpQuiet_nil ?_
   intro wq hw'
   obtain ⟨⟨dq, osq⟩, hw''⟩ := hw'
   have hbq : Below w3.heap.size w3 wq := by rw [hw'']; exact below_regrown w3 dq osq
   have HBq : Hid (Below w.heap.size w wq) := HB3.out.trans (hbq.mono HB3.out.size)
   have HTq := hid (HTR.out.below hbq)
   have HBDq := hid (HBD.out.below hbq HBD.out.lt)
   clear hw'' hbq kR kE HBD HTR
   go_wp2_with (first
    | (go_at_call 187; refine (HWW.out wq p x (fun i hi => HF.out i (Nat.le_trans HBq.out.size hi)) hxp HTq.out).mono ?_; rintro e w5 ⟨g, rfl, hT, hb⟩; have HT := hid hT; have HB5 : Hid (Below w.heap.size w w5) := hid (HBq.out.trans (hb.mono HBq.out.size)); have HBD5 := hid (HBDq.out.below hb HBDq.out.lt); have c0 : w5.cell? ⟨d0, 0, none⟩ = some (.pointer x) := (HBD5.out.cell 0).trans rfl; have f0 := HBD5.out.frozen 0; clear hT hb)
    | fail)
   go_ret2
   have hx2 := HNT.out
   simp only [Bool.false_eq_true, if_false] at hx2
   subst hx2
   refine ⟨⟨_, rfl⟩, ⟨some g, HBD5.out.set_ 0 _, HT.out.keep (fun i hi hFi => ⟨hFi, Below.heap_setCell _ _ _ _ (by rintro rfl; exact HD.out hFi)⟩)⟩, ?_⟩
   have hg := grown_below (d := some d0) HB5.out
   exact ⟨hg.os, hg.tape, hg.output, by rw [size_set]; exact hg.size, fun i hi hne => (Below.heap_setCell _ _ _ _ (by rintro rfl; exact hne rfl)).trans (hg.block i hi hne)⟩
 | false =>
  have hx := HNB.out
  rw [hsm] at hx
  simp only [Bool.false_and] at hx
  subst hx
  simp only [KE.cells]
  go_wp2_with fail
  obtain ⟨w3, hw3⟩ : ∃ x, w2.alloc (.cells #[.int .i64 b1, .int .i64 b2, .int .i64 b3, .int .i64 b4, .int .i64 b5, .bool b6] 117) = x := ⟨_, rfl⟩
  have HB3 : Hid (Below w.heap.size w w3) := by rw [<- hw3]; exact (HB1.out.trans (HB2.out.mono HB1.out.size)).trans ((Below.refl _ _).alloc (HB1.out.trans (HB2.out.mono HB1.out.size)).size _)
  have HK3 : Hid (Blk w3 w.heap.size 117 #[.int .i64 a1, .int .i64 a2, .int .i64 a3, .int .i64 a4, .int .i64 a5, .bool a6]) := by rw [<- hw3]; exact HK2.out.alloc _
  simp only [hw3]
  clear hw3 k3
  obtain ⟨p, hBd, hTr⟩ := HH.out.below HB3.out
  obtain ⟨x, hxp⟩ : ∃ x, pv p = .pointer x := ⟨_, rfl⟩
  rw [hxp] at hBd
  have HBD := hid hBd
  have HTR := hid hTr
  clear hBd hTr
  have kR := fun d os => cell_regrown (show w3.cell? ⟨d0, 0, none⟩ = some (.pointer x) from (HBD.out.cell 0).trans rfl) d os
  have kE := regrown_cells HK3.out 0 [.int .i64 a1, .int .i64 a2, .int .i64 a3, .int .i64 a4, .int .i64 a5, .bool a6] (fun j v h => by simpa using h)
  refine wp_quiet_tail1 7 (by kernel_rfl) (by kernel_rfl) (by kernel_rfl) (by kernel_rfl) (by kernel_rfl) (.pointer (some ⟨d0, 0, none⟩)) (Or.inl ⟨by rfl, fun _ => rfl⟩) (fun _ _ _ h => h) ?_
  simp only [List.take_succ_cons, List.take_zero, List.drop_succ_cons, List.drop_zero, Act.put, List.setIfInBounds_toArray, List.set_cons_succ, List.set_cons_zero]
  repeat (first | go_big_quiet_skip | (with_reducible refine wpQuiet_load_list (o := ⟨some 37, .load 117 (.tmp 5), _, _, _, _⟩) rfl 117 (.tmp 5) rfl ⟨w.heap.size, 0, none⟩ rfl [.int .i64 a1, .int .i64 a2, .int .i64 a3, .int .i64 a4, .int .i64 a5, .bool a6] kE _ Tryz.underlying117 rfl (by kernel_rfl) ?_; simp only [Act.put, List.setIfInBounds_toArray, List.set_cons_succ, List.set_cons_zero]) | (go_big_quiet_want; go_big_quiet_op; go_big_quiet_on))
  refine wpQuiet_nil ?_
  intro wq hw'
  obtain ⟨⟨dq, osq⟩, hw''⟩ := hw'
  have hbq : Below w3.heap.size w3 wq := by rw [hw'']; exact below_regrown w3 dq osq
  have HBq : Hid (Below w.heap.size w wq) := HB3.out.trans (hbq.mono HB3.out.size)
  have HTq := hid (HTR.out.below hbq)
  have HBDq := hid (HBD.out.below hbq HBD.out.lt)
  clear hw'' hbq kR kE HBD HTR
  go_wp2_with (first
   | (go_at_call 187; refine (HWW.out wq p x (fun i hi => HF.out i (Nat.le_trans HBq.out.size hi)) hxp HTq.out).mono ?_; rintro e w5 ⟨g, rfl, hT, hb⟩; have HT := hid hT; have HB5 : Hid (Below w.heap.size w w5) := hid (HBq.out.trans (hb.mono HBq.out.size)); have HBD5 := hid (HBDq.out.below hb HBDq.out.lt); have c0 : w5.cell? ⟨d0, 0, none⟩ = some (.pointer x) := (HBD5.out.cell 0).trans rfl; have f0 := HBD5.out.frozen 0; clear hT hb)
   | fail)
  go_ret2
  have hx2 := HNT.out
  simp only [Bool.false_eq_true, if_false] at hx2
  subst hx2
  refine ⟨⟨_, rfl⟩, ⟨some g, HBD5.out.set_ 0 _, HT.out.keep (fun i hi hFi => ⟨hFi, Below.heap_setCell _ _ _ _ (by rintro rfl; exact HD.out hFi)⟩)⟩, ?_⟩
  have hg := grown_below (d := some d0) HB5.out
  exact ⟨hg.os, hg.tape, hg.output, by rw [size_set]; exact hg.size, fun i hi hne => (Below.heap_setCell _ _ _ _ (by rintro rfl; exact hne rfl)).trans (hg.block i hi hne)⟩
end Go.Proofs.YtendlmdmbkcdnaaGreatDoor.kd
namespace Go.Proofs.YtendlmdmbkcdnaaGreatDoor.oc
open Go
open Go.RowKit
section
variable {P : Program} {ops : Array Oper} {C : World -> Prop} {n : Nat}
theorem op_wide {o : Oper} {a : Act} {w : World} {K : Act -> Prop} {K' : Act -> World -> Prop} {Q : Exit -> Act -> World -> Prop} (hw : C w) (h : ∀ a w', C w' -> K a -> K' a w') (hh : o.quiet P a C K) : o.wpIn Fence.wide n P a w K' Q := by
 refine ⟨fun _ _ => trivial, ?_⟩
 show o.uponIn Fence.wide n P a K' Q ((execOp a.eval o).run P w)
 obtain ⟨v, h1, h2⟩ := hh
 have h3 := h1 w hw
 have hd : (Fence.wide.depth.isSome = true -> 1 <= n) := fun h => by cases h
 unfold Oper.quietAt at h3
 generalize (execOp a.eval o).run P w = r at *
 cases r with
 | ok nx w' =>
  cases nx <;> simp only [Oper.quietUpon] at h3
  case value u =>
   obtain ⟨e1, e2⟩ := h3
   rw [e1, e2]
   exact h _ _ hw h2
  case skip =>
   obtain ⟨e1, e2⟩ := h3
   show K' (a.put o.dst undef) w'
   rw [e1, <- e2]
   exact h _ _ hw h2
  case enter f args =>
   obtain ⟨e1, hc⟩ := h3
   rw [e1]
   refine ⟨hd, callsIn_wide.2 (hc.mono ?_)⟩
   rintro e w'' ⟨rfl, hw''⟩
   exact h _ _ hw'' h2
 | halt x w' => simp only [Oper.quietUpon] at h3
theorem opn_wide {i : Nat} {a : Act} {w : World} {K : Act -> Prop} {K' : Act -> World -> Prop} {Q : Exit -> Act -> World -> Prop} (hC : C w) (h : ∀ a w', C w' -> K a -> K' a w') (hh : qOp P ops C i K a) : wpOpIn Fence.wide n P ops Q i K' a w := by
 unfold qOp at hh
 unfold wpOpIn
 split
 ·rename_i ho; simp only [ho] at hh; exact h _ _ hC hh
 ·rename_i o ho
  simp only [ho] at hh
  split
  ·rename_i hw; simp only [hw, if_true] at hh; exact op_wide hC h hh
  ·rename_i hw; simp only [hw] at hh; exact ⟨fun _ _ => trivial, h _ _ hC hh⟩
theorem wpAnyIn_of_headQ {m g : Nat} {L : Array Bool -> Act -> Prop} {Q : Exit -> Act -> World -> Prop} (hL : ∀ listed a w, C w -> L listed a -> wpAnyIn Fence.wide n P .any ops Q g listed a w) :
  ∀ (f : Nat) (listed : Array Bool) (a : Act) (w : World), C w -> headQ P ops C m L f listed a -> wpAnyIn Fence.wide n P .any ops Q (g + f) listed a w := by
 intro f
 induction f with
 | zero => intro listed a w hw h; exact hL _ _ _ hw h
 | succ f ih =>
  intro listed a w hw h
  exact ⟨fun h0 => absurd h0 h.1, fun i hi => opn_wide hw (fun a' w' hw' h' => ih _ a' w' hw' h') (h.2 i hi).2⟩
theorem wpAnyIn_of_seq {F : Fence} {Q' : Exit -> Act -> World -> Prop} : ∀ (l : List Oper) (k : Nat) (listed : Array Bool) (a : Act) (w : World), (∀ j, l[j]? = ops[k + j]?) ->
  Region.seqB .any ops l.length k listed = true -> wpListIn F n P ops Q' l a w -> wpAnyIn F n P .any ops Q' l.length listed a w
 | [], _, _, _, _, _, hB, h => ⟨by simpa [Region.seqB] using hB, h⟩
 | o :: l, k, listed, a, w, hl, hB, h => by
  have h0 : ops[k]? = some o := by simpa using (hl 0).symm
  simp only [List.length_cons, Region.seqB, Bool.and_eq_true, decide_eq_true_eq] at hB
  refine ⟨fun h1 => (by rw [hB.1] at h1; cases h1), fun i hi => ?_⟩
  rw [hB.1] at hi
  have hik : i = k := by simpa using hi
  subst hik
  have hw : wpOpIn F n P ops Q' i (wpListIn F n P ops Q' l) a w := by unfold wpOpIn; simp only [h0]; exact h
  exact wpOpIn_mono (fun a' w' h' => wpAnyIn_of_seq l (i + 1) _ a' w' (fun j => by have := hl (j + 1); simpa [Nat.add_assoc, Nat.add_comm 1 j] using this) hB.2 h') hw
theorem wpIn_quiet_tail {id : Nat} {Q : Exit -> Act -> World -> Prop} {a : Act} {w : World} {l : List Oper} (k : Nat) (hm : P.follows .mixedOrders = true) (hB : quietTailB l.toArray 0 k = true)
  (hlex : Region.lexHead .any l.toArray (l.length - k) k 0 (Array.replicate l.toArray.size false) = true)
  (h : wpQuiet P l.toArray (fun w' => ∃ p : Regrown, w' = Sort.grow (redrawn w p.d) p.os) (fun a' => ∀ w', (∃ p : Regrown, w' = Sort.grow (redrawn w p.d) p.os) -> wpListIn Fence.wide n P l.toArray Q (l.drop k) a' w') (l.take k) a) : (Code.region id l.toArray true).wpIn Fence.wide n P Q a w := by
 refine wpIn_region_any hm ?_
 have hB2 := hB
 simp only [quietTailB, Bool.and_eq_true, decide_eq_true_eq] at hB2
 obtain ⟨⟨⟨⟨hsel, _⟩, hn⟩, hs⟩, hc⟩ := hB2
 have hn' : k < l.length := by simpa using hn
 have htl : (l.take k).length = k := by simp; omega
 have hdl : (l.drop k).length = l.length - k := by simp
 have H := headQ_lex (g := l.length - k) hsel hs hc hn (l.take k) 0 (Array.replicate l.toArray.size false) a (Nat.le_refl _) (fun j hj => by
  have hj' : j < k := by rw [htl] at hj; omega
  simp [hj']) (by rw [htl]; omega) (head_inv0 k) (by rw [htl]; exact hlex) h
 have H2 := wpAnyIn_of_headQ (n := n) (Q := Q) (g := l.length - k) (fun listed' a' w' hw' hL => by
  have := wpAnyIn_of_seq (F := Fence.wide) (n := n) (Q' := Q) (l.drop k) k listed' a' w' (fun j => by simp [List.getElem?_drop]) (by rw [hdl]; exact hL.1) (hL.2 w' hw')
  rwa [hdl] at this) _ _ _ { w with drawn := w.drawn + 1 } ⟨⟨w.drawn + 1, #[]⟩, by rw [Sort.grow_empty]; rfl⟩ H
 rw [htl, show l.length - k + k = l.toArray.size by simp; omega] at H2
 exact H2
end
end Go.Proofs.YtendlmdmbkcdnaaGreatDoor.oc
namespace Go.Proofs.YtendlmdmbkcdnaaGreatDoor.kd
open Go.RowKit Go.Shelf oc
open Go.Lib (hid)
set_option maxRecDepth 100000
attribute [local go_sem] Oper.semAt_some
def KT.list : KT -> List (ByteArray × KE)
 | .nil => []
 | .node k e l r => l.list ++ (k, e) :: r.list
theorem KT.list_len : ∀ t : KT, t.list.length = t.count
 | .nil => rfl
 | .node k e l r => by simp only [KT.list, KT.count, List.length_append, List.length_cons, KT.list_len l, KT.list_len r]; omega
def encK (x : ByteArray × KE) : Array Value := #[.string x.1, .agg x.2.cells]
def Kc (c : Nat) (W W' : World) : Prop := W.heap.size <= W'.heap.size /\ ∀ (i : Nat) (cs : Array Value) (t : TypeId) (fr : Nat × Nat), i ≠ c -> W.heap[i]? = some (.cells cs t fr) -> W'.heap[i]? = some (.cells cs t fr)
theorem Kc.refl (c : Nat) (W : World) : Kc c W W := ⟨Nat.le_refl _, fun _ _ _ _ _ h => h⟩
theorem Kc.trans {c : Nat} {A B C : World} (h : Kc c A B) (k : Kc c B C) : Kc c A C := ⟨Nat.le_trans h.1 k.1, fun i cs t fr hi hA => k.2 i cs t fr hi (h.2 i cs t fr hi hA)⟩
theorem Kc.below {c : Nat} {A B : World} (h : Below A.heap.size A B) : Kc c A B := ⟨h.size, fun i cs t fr _ hA => (h.block i (Array.getElem?_eq_some_iff.1 hA).1).trans hA⟩
theorem Kc.blk {c b : Nat} {A B : World} {t : TypeId} {cs : Array Value} (h : Kc c A B) (hb : Blk A b t cs) (hne : b ≠ c) : Blk B b t cs := h.2 b cs t (0, 0) hne hb
theorem TreeAt.kc {c : Nat} {A B : World} (h : Kc c A B) : ∀ {t : KT} {p : Option Nat}, TreeAt A (· ≠ c) t p -> TreeAt B (· ≠ c) t p
 | .nil, _, ht => ht
 | .node _ _ _ _, _, ⟨g, pl, pr, e, hF, hB, hl, hr⟩ => ⟨g, pl, pr, e, hF, h.blk hB hF, TreeAt.kc h hl, TreeAt.kc h hr⟩
structure Boxes (c bf bt bs bq l : Nat) (W : World) : Prop where
 n0 : bf ≠ c
 n1 : bt ≠ c
 n2 : bs ≠ c
 n3 : bq ≠ c
 h0 : Blk W bf 9 #[.string ⟨#[]⟩]
 h1 : Blk W bt 9 #[.string ⟨#[]⟩]
 h2 : Blk W bs 198 #[.func (.func 103) #[] #[.pointer (some ⟨bf, 0, none⟩), .pointer (some ⟨bt, 0, none⟩), .pointer (some ⟨bs, 0, none⟩), .pointer (some ⟨bq, 0, none⟩)]]
 h3 : Blk W bq 197 #[.func (.yield l) #[] #[]]
theorem Boxes.kc {c bf bt bs bq l : Nat} {A B : World} (h : Boxes c bf bt bs bq l A) (k : Kc c A B) : Boxes c bf bt bs bq l B :=
 ⟨h.n0, h.n1, h.n2, h.n3, k.blk h.h0 h.n0, k.blk h.h1 h.n1, k.blk h.h2 h.n2, k.blk h.h3 h.n3⟩
theorem room_none (k : Nat) : Fence.wide.room k := fun d h => by cases h
theorem RoundIn.any {m m' : Nat} {P : Program} {l : Nat} {f : FuncId} {tmps : Array Value} {assign body : Code} {w : World} {R : Ending -> World -> Prop}
  (h : RoundIn Fence.wide m P l f tmps assign body w R) : RoundIn Fence.wide m' P l f tmps assign body w R := ⟨h.1, fun c cs _ => h.2 c cs (room_none _)⟩
theorem YieldAt.any {m : Nat} (m' : Nat) {P : Program} {l : Nat} {args : Array Value} {W : World} {R : Ending -> World -> Prop} (h : YieldAt Fence.wide m P l args W R) : YieldAt Fence.wide m' P l args W R := by
 obtain ⟨fn, tmps, assign, body, hy, hR⟩ := h
 exact ⟨fn, tmps, assign, body, hy, RoundIn.any hR⟩
theorem abides {β : Type} {B : Nat} {J : β -> World -> Prop} (h : AbidesFrom B J) {s : β} {W W' : World} (hj : J s W) (hb : Below W.heap.size W W') : J s W' :=
 h s W W' none hj (grown_below hb) (fun r e => by cases e)
theorem cmp_empty (k : ByteArray) : (0 : Int) <= cmpL k.data.toList [] := by
 have h : cmpL (k.data.toList.drop 0) ((⟨#[]⟩ : ByteArray).data.toList.drop 0) = min (max ((k.size : Int) - ((⟨#[]⟩ : ByteArray).size : Int)) (-1)) 1 \/ True := Or.inr trivial
 cases h2 : k.data.toList with
 | nil => simp [cmpL]
 | cons x l => simp [cmpL]
set_option maxHeartbeats 8000000 in
theorem push_in (l N c B : Nat) (J Jx : List (ByteArray × KE) -> World -> Prop) (hJ : AbidesFrom B J) (bf bt bs bq : Nat)
  (hY : Hid (∀ m pre x W, J pre W -> pre.length < N -> YieldAt Fence.wide m Tryz.prog l (encK x) W fun e W' =>
   (e = .returned (.bool true) /\ J (pre ++ [x]) W' /\ Kc c W W') \/ (e = .returned (.bool false) /\ Jx (pre ++ [x]) W'))) (T : KT) :
  ∀ (n : Nat) (p : Option Nat) (pre : List (ByteArray × KE)) (W : World), TreeAt W (· ≠ c) T p -> Boxes c bf bt bs bq l W -> J pre W -> pre.length + T.count <= N -> T.short ->
   CallsIn Fence.wide n Tryz.prog 103 #[pv p, .pointer (some ⟨bf, 0, none⟩), .pointer (some ⟨bt, 0, none⟩), .pointer (some ⟨bs, 0, none⟩), .pointer (some ⟨bq, 0, none⟩)] W fun e W' =>
    (e = .returned (.bool true) /\ J (pre ++ T.list) W' /\ Kc c W W') \/ (e = .returned (.bool false) /\ ∃ q, q <+: T.list /\ Jx (pre ++ q) W') := by
 induction T with
 | nil =>
  intro n p pre W ht hB hj _ _
  obtain rfl : p = none := ht
  simp only [pv, pa]
  refine callsIn_of_wp Tryz.func103 rfl trivial ?_ rfl
  simp only [Tryz.ntmps103, List.size_toArray, List.length_cons, List.length_nil, Nat.reduceAdd, Nat.reduceSub, Array.replicate_succ, Array.replicate_zero, List.push_toArray, List.append_toArray, List.nil_append, List.cons_append]
  gi_wp2
  go_ret
  exact .inl ⟨rfl, by simpa [KT.list] using hj, Kc.refl _ _⟩
 | node k e tl tr ihl ihr =>
  intro n p pre W ht hB hj hN hsh
  obtain ⟨g, pl, pr, rfl, hF, hBg, hl, hr⟩ := ht
  obtain ⟨s1, s2, s3, s4, s5, s6⟩ := e
  simp only [pv, pa]
  have HIL := hid ihl
  have HIR := hid ihr
  clear ihl ihr
  have HB := hid hB
  have HG := hid hBg
  have HTL := hid hl
  have HTR := hid hr
  have HJ := hid hj
  have HSH := hid hsh
  have HNN := hid hN
  have HF := hid hF
  have c0 := fun d' os => cell_regrown (show W.cell? ⟨g, 0, none⟩ = some (.string k) from (hBg.cell 0).trans rfl) d' os
  have c1 := fun d' os => cell_regrown (show W.cell? ⟨bf, 0, none⟩ = some (.string ⟨#[]⟩) from (hB.h0.cell 0).trans rfl) d' os
  have q1 : QC Tryz.prog W 104 #[.string k, .string ⟨#[]⟩] (.int .i64 (cmpL k.data.toList [])) := below_qc (fun W' _ => compare_any k ⟨#[]⟩ (by have := hsh.1; omega) (by decide) W')
  have hcm : decide ((0 : Int) <= cmpL k.data.toList []) = true := decide_eq_true (cmp_empty k)
  clear hB hBg hl hr hj hsh hN hF
  refine callsIn_of_wp Tryz.func103 rfl trivial ?_ rfl
  simp only [Tryz.ntmps103, List.size_toArray, List.length_cons, List.length_nil, Nat.reduceAdd, Nat.reduceSub, Array.replicate_succ, Array.replicate_zero, List.push_toArray, List.append_toArray, List.nil_append, List.cons_append]
  gi_wp2
  refine wpIn_quiet_tail 7 (by kernel_rfl) (by kernel_rfl) (by kernel_rfl) ?_
  simp only [List.take, List.drop]
  repeat (first | go_big_quiet_skip | (go_big_quiet_want; go_big_quiet_op; first | go_big_quiet_on | (apply Exists.intro; refine ⟨fun _ => ?_, ?_⟩; · (first | with_reducible exact q1 _ _)); go_big_quiet_on))
  refine wpQuiet_nil ?_
  intro W1 hw'
  obtain ⟨⟨dq, osq⟩, hw''⟩ := hw'
  have hb1 : Below W.heap.size W W1 := by rw [hw'']; exact below_regrown W dq osq
  have HK1 : Hid (Kc c W W1) := hid (Kc.below hb1)
  have HJ1 : Hid (J pre W1) := hid (abides hJ HJ.out hb1)
  have HB1 := hid (HB.out.kc HK1.out)
  have HG1 := hid (HK1.out.blk HG.out HF.out)
  have c0' := fun d' os => cell_regrown (show W1.cell? ⟨g, 0, none⟩ = some (.string k) from (HG1.out.cell 0).trans rfl) d' os
  have c2 := fun d' os => cell_regrown (show W1.cell? ⟨bt, 0, none⟩ = some (.string ⟨#[]⟩) from (HB1.out.h1.cell 0).trans rfl) d' os
  clear hw'' hb1 q1 hcm c0 c1 HJ
  gi_wp2
  refine wpIn_quiet_tail 11 (by kernel_rfl) (by kernel_rfl) (by kernel_rfl) ?_
  simp only [List.take, List.drop]
  repeat (first | go_big_quiet_skip | (go_big_quiet_want; go_big_quiet_op; go_big_quiet_on))
  refine wpQuiet_nil ?_
  intro W2 hw'
  obtain ⟨⟨dq2, osq2⟩, hw''⟩ := hw'
  have hb2 : Below W1.heap.size W1 W2 := by rw [hw'']; exact below_regrown W1 dq2 osq2
  have HK2 : Hid (Kc c W W2) := hid (HK1.out.trans (Kc.below hb2))
  have HJ2 : Hid (J pre W2) := hid (abides hJ HJ1.out hb2)
  have HB2 := hid (HB.out.kc HK2.out)
  have HG2 := hid (HK2.out.blk HG.out HF.out)
  have k3 := fun d' os => cell_regrown (show W2.cell? ⟨bs, 0, none⟩ = some (.func (.func 103) #[] #[.pointer (some ⟨bf, 0, none⟩), .pointer (some ⟨bt, 0, none⟩), .pointer (some ⟨bs, 0, none⟩), .pointer (some ⟨bq, 0, none⟩)]) from (HB2.out.h2.cell 0).trans rfl) d' os
  have k8 := fun d' os => cell_regrown (show W2.cell? ⟨g, 8, none⟩ = some (.pointer (pa pl)) from (HG2.out.cell 8).trans rfl) d' os
  clear hw'' hb2 c0' c2 HK1 HJ1 HB1 HG1
  gi_wp2
  refine wpIn_quiet_tail 7 (by kernel_rfl) (by kernel_rfl) (by kernel_rfl) ?_
  simp only [List.take, List.drop]
  repeat (first | go_big_quiet_skip | (go_big_quiet_want; go_big_quiet_op; go_big_quiet_on))
  refine wpQuiet_nil ?_
  intro W3 hw'
  obtain ⟨⟨dq3, osq3⟩, hw''⟩ := hw'
  have hb3 : Below W2.heap.size W2 W3 := by rw [hw'']; exact below_regrown W2 dq3 osq3
  have HK3 : Hid (Kc c W W3) := hid (HK2.out.trans (Kc.below hb3))
  have HJ3 : Hid (J pre W3) := hid (abides hJ HJ2.out hb3)
  have hdd : ∀ k : Nat, (Fence.wide.depth.isSome = true -> 1 <= k) := fun k h => by cases h
  have ih1 := HIL.out (n - 1) pl pre W3 (HTL.out.kc HK3.out) (HB.out.kc HK3.out) HJ3.out (by have := HNN.out; simp only [KT.count] at this; omega) HSH.out.2.1
  change CallsIn _ _ _ _ #[.pointer (pa pl), _, _, _, _] _ _ at ih1
  clear hw'' hb3 k3 k8 HK2 HJ2 HB2 HG2
  gi_wp2
  refine ⟨trivial, hdd _, ih1.mono ?_⟩
  clear ih1
  rintro e4 W4 (⟨rfl, hJ4, hk4⟩ | ⟨rfl, q, hq, hx1⟩)
  rotate_left
  ·gi_wp2
   go_ret
   exact .inr ⟨rfl, q, hq.trans (by simp [KT.list]), hx1⟩
  have HK4 : Hid (Kc c W W4) := hid (HK3.out.trans hk4)
  have HJ4 := hid hJ4
  have HB4 := hid (HB.out.kc HK4.out)
  have HG4 := hid (HK4.out.blk HG.out HF.out)
  have k0 := fun d' os => cell_regrown (show W4.cell? ⟨g, 0, none⟩ = some (.string k) from (HG4.out.cell 0).trans rfl) d' os
  have k4 := fun d' os => cell_regrown (show W4.cell? ⟨bq, 0, none⟩ = some (.func (.yield l) #[] #[]) from (HB4.out.h3.cell 0).trans rfl) d' os
  have e1 := fun d' os => cell_regrown (show W4.cell? ⟨g, 1, none⟩ = some (.int .i64 s1) from (HG4.out.cell 1).trans rfl) d' os
  have e2 := fun d' os => cell_regrown (show W4.cell? ⟨g, 2, none⟩ = some (.int .i64 s2) from (HG4.out.cell 2).trans rfl) d' os
  have e3 := fun d' os => cell_regrown (show W4.cell? ⟨g, 3, none⟩ = some (.int .i64 s3) from (HG4.out.cell 3).trans rfl) d' os
  have e4 := fun d' os => cell_regrown (show W4.cell? ⟨g, 4, none⟩ = some (.int .i64 s4) from (HG4.out.cell 4).trans rfl) d' os
  have e5 := fun d' os => cell_regrown (show W4.cell? ⟨g, 5, none⟩ = some (.int .i64 s5) from (HG4.out.cell 5).trans rfl) d' os
  have e6 := fun d' os => cell_regrown (show W4.cell? ⟨g, 6, none⟩ = some (.bool s6) from (HG4.out.cell 6).trans rfl) d' os
  clear hJ4 hk4 HK3 HJ3
  gi_wp2
  refine wpIn_quiet_tail 14 (by kernel_rfl) (by kernel_rfl) (by kernel_rfl) ?_
  simp only [List.take, List.drop]
  repeat (first | go_big_quiet_skip | (go_big_quiet_want; go_big_quiet_op; go_big_quiet_on))
  refine wpQuiet_nil ?_
  intro W5 hw'
  obtain ⟨⟨dq5, osq5⟩, hw''⟩ := hw'
  have hb5 : Below W4.heap.size W4 W5 := by rw [hw'']; exact below_regrown W4 dq5 osq5
  have HK5 : Hid (Kc c W W5) := hid (HK4.out.trans (Kc.below hb5))
  have hJ5 : J (pre ++ tl.list) W5 := abides hJ HJ4.out hb5
  have hy5 := hY.out (n - 1) (pre ++ tl.list) (k, ⟨s1, s2, s3, s4, s5, s6⟩) W5 hJ5 (by have := HNN.out; simp only [KT.count] at this; rw [List.length_append, KT.list_len]; omega)
  obtain ⟨fn, tmps, assign, body, hy, hR⟩ := hy5
  dsimp only [encK, KE.cells] at hy
  have HRR := hid hR
  clear hw'' hb5 hJ5 hR k0 k4 e1 e2 e3 e4 e5 e6 HK4 HJ4 HB4 HG4
  gi_wp2
  refine ⟨hdd _, HRR.out.mono ?_⟩
  rintro e6 W6 (⟨rfl, hJ6, hk6⟩ | ⟨rfl, hx1⟩)
  rotate_left
  ·gi_wp2
   go_ret
   exact .inr ⟨rfl, tl.list ++ [(k, ⟨s1, s2, s3, s4, s5, s6⟩)], ⟨tr.list, by simp [KT.list]⟩, by simpa [List.append_assoc] using hx1⟩
  have HK6 : Hid (Kc c W W6) := hid (HK5.out.trans hk6)
  have HJ6 := hid hJ6
  have HB6 := hid (HB.out.kc HK6.out)
  have HG6 := hid (HK6.out.blk HG.out HF.out)
  have k3 := fun d' os => cell_regrown (show W6.cell? ⟨bs, 0, none⟩ = some (.func (.func 103) #[] #[.pointer (some ⟨bf, 0, none⟩), .pointer (some ⟨bt, 0, none⟩), .pointer (some ⟨bs, 0, none⟩), .pointer (some ⟨bq, 0, none⟩)]) from (HB6.out.h2.cell 0).trans rfl) d' os
  have k9 := fun d' os => cell_regrown (show W6.cell? ⟨g, 9, none⟩ = some (.pointer (pa pr)) from (HG6.out.cell 9).trans rfl) d' os
  clear hJ6 hk6 hy HRR HK5
  gi_wp2
  refine wpIn_quiet_tail 8 (by kernel_rfl) (by kernel_rfl) (by kernel_rfl) ?_
  simp only [List.take, List.drop]
  repeat (first | go_big_quiet_skip | (go_big_quiet_want; go_big_quiet_op; go_big_quiet_on))
  refine wpQuiet_nil ?_
  intro W7 hw'
  obtain ⟨⟨dq7, osq7⟩, hw''⟩ := hw'
  have hb7 : Below W6.heap.size W6 W7 := by rw [hw'']; exact below_regrown W6 dq7 osq7
  have HK7 : Hid (Kc c W W7) := hid (HK6.out.trans (Kc.below hb7))
  have hJ7 : J (pre ++ tl.list ++ [(k, ⟨s1, s2, s3, s4, s5, s6⟩)]) W7 := abides hJ HJ6.out hb7
  have ih2 := HIR.out (n - 1) pr _ W7 (HTR.out.kc HK7.out) (HB.out.kc HK7.out) hJ7 (by have := HNN.out; simp only [KT.count] at this; rw [List.length_append, List.length_append, KT.list_len, List.length_singleton]; omega) HSH.out.2.2
  change CallsIn _ _ _ _ #[.pointer (pa pr), _, _, _, _] _ _ at ih2
  clear hw'' hb7 hJ7 k3 k9 HK6 HJ6 HB6 HG6
  gi_wp2
  refine ⟨trivial, hdd _, ih2.mono ?_⟩
  clear ih2
  rintro e8 W8 (⟨rfl, hJ8, hk8⟩ | ⟨rfl, q, ⟨r, hr'⟩, hx1⟩)
  ·gi_wp2
   go_ret
   exact .inl ⟨rfl, by simpa [KT.list, List.append_assoc] using hJ8, HK7.out.trans hk8⟩
  ·gi_wp2
   go_ret
   exact .inr ⟨rfl, tl.list ++ (k, ⟨s1, s2, s3, s4, s5, s6⟩) :: q, ⟨r, by simp [KT.list, <- hr']⟩, by simpa [List.append_assoc] using hx1⟩
end Go.Proofs.YtendlmdmbkcdnaaGreatDoor.kd
