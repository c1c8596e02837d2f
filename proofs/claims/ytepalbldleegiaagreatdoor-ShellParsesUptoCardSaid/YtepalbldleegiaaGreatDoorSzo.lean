/-
  What the row ShellPrints hands in: a command opened at every cell; the tables as they were laid.
  Conditions: those of the rows.
-/
import Derived.Test.YtepalbldleegiaaGreatDoorSze
import Derived.Test.YtepalbldleegiaaGreatDoorOpen
import Derived.Test.YtepalbldleegiaaGreatDoorBulk
import Derived.Lib.LaidTab
import Derived.LaidSub
import Derived.LaidLaws
import Derived.OpenShut
namespace Go.Proofs.YtepalbldleegiaaGreatDoor.sh
open Go.ChangeShapes Go.WideShapes Go.Deep
open Go.RowKit
open Go.Lib (itoa decDigits byteCells)

def intOf? : Option Value → Int
  | some (.int _ n) => n
  | _ => 0
theorem open_bytes {H : Type} {enc : TypeId × Value → H} {W : World} {fuel : Nat} {v : Value} {x : DataW H × List MemPlace}
    (h : DataW.trod enc Tryz.prog W 0 (fun _ => true) true fuel 25 [v] = some x) :
    ∃ (D : Option Addr) (d : Nat) (l : Bs), v = .slice D l.length d ∧ BytesAt W W.heap.size D l ∧ l.length ≤ Rows.uptoBulk x.1 := by
  rcases open_slice1 Tryz.underlying25 (by kernel_rfl) h with ⟨hcs, _⟩ | ⟨a, len, cap, m, n, V, D, Pl, hcs, _, hl, hm, hmm, hx, hi⟩
  · simp at hcs
    exact ⟨none, 0, [], hcs, fun hn => absurd rfl hn, by simp⟩
  · simp at hcs
    simp only [if_true] at hmm
    subst hmm
    have hby : ∀ i, i < m → W.cell? (a.add i) = some (.int .u8 ((UInt8.ofNat (intOf? (W.cell? (a.add i))).toNat).toNat : Int)) := by
      intro i him
      obtain ⟨hc, ht⟩ := hi i him
      obtain ⟨q, hv, _, wq⟩ := DataW.trod_int (k := .u8) (by kernel_rfl) ht
      simp at hv
      rw [hv] at hc
      have hq : 0 ≤ q ∧ q ≤ 255 := by simpa [Lit.wf, IntKind.min, IntKind.max, IntKind.signed, IntKind.bits] using wq
      rw [hc, show intOf? (some (Value.int .u8 q)) = q from rfl, UInt8.toNat_ofNat', Nat.mod_eq_of_lt (by omega)]
      congr 2
      omega
    refine ⟨some a, m, (List.range len).map fun i => UInt8.ofNat (intOf? (W.cell? (a.add i))).toNat, by simpa using hcs, ?_, ?_⟩
    · intro hn
      have hpos : 0 < len := by
        rcases Nat.eq_zero_or_pos len with e | e
        · subst e; simp at hn
        · exact e
      obtain ⟨vq, hq⟩ : ∃ v, W.cell? (a.add 0) = some v := ⟨_, hby 0 (by omega)⟩
      have hblk := block_lt_of_cell hq
      obtain ⟨b, off, sp⟩ := a
      cases sp with
      | some x =>
        exfalso
        clear hby hi hx
        simp [World.cell?, Addr.add] at hq
        split at hq <;> simp_all
      | none =>
        refine ⟨b, off, rfl, ?_, fun i x hx => ?_⟩
        · rw [add_flat] at hblk; exact hblk
        · rw [List.getElem?_map] at hx
          obtain ⟨k, hk, rfl⟩ := Option.map_eq_some_iff.1 hx
          obtain ⟨hlt, rfl⟩ := List.getElem?_eq_some_iff.1 hk
          rw [List.length_range] at hlt
          have := hby i (by omega)
          rw [add_flat] at this
          rw [List.getElem_range, add_flat]
          exact this
    · rw [hx]
      have := bulks.slice_le ((List.range len).map D) ((List.range (m - len)).map fun j => D (len + j))
      simp only [List.length_map, List.length_range] at this ⊢
      omega
theorem open_ints {H : Type} {enc : TypeId × Value → H} {W : World} {fuel : Nat} {v : Value} {x : DataW H × List MemPlace}
    (h : DataW.trod enc Tryz.prog W 0 (fun _ => true) true fuel 26 [v] = some x) :
    ∃ (D : Option Addr) (d : Nat) (l : List Int), v = .slice D l.length d ∧ IntsAt W W.heap.size D l ∧ (∀ q ∈ l, I64 q) ∧ l.length ≤ Rows.uptoBulk x.1 := by
  rcases open_slice1 Tryz.underlying26 (by kernel_rfl) h with ⟨hcs, _⟩ | ⟨a, len, cap, m, n, V, D, Pl, hcs, _, hl, hm, hmm, hx, hi⟩
  · simp at hcs
    exact ⟨none, 0, [], hcs, fun hn => absurd rfl hn, by simp, by simp⟩
  · simp at hcs
    simp only [if_true] at hmm
    subst hmm
    have hby : ∀ i, i < m → W.cell? (a.add i) = some (.int .i64 (intOf? (W.cell? (a.add i)))) ∧ I64 (intOf? (W.cell? (a.add i))) := by
      intro i him
      obtain ⟨hc, ht⟩ := hi i him
      obtain ⟨q, hv, _, wq⟩ := DataW.trod_int (k := .i64) (by kernel_rfl) ht
      simp at hv
      rw [hv] at hc
      rw [hc]
      exact ⟨rfl, by show -9223372036854775808 ≤ q ∧ q ≤ 9223372036854775807; simpa [Lit.wf, IntKind.min, IntKind.max, IntKind.signed, IntKind.bits] using wq⟩
    refine ⟨some a, m, (List.range len).map fun i => intOf? (W.cell? (a.add i)), by simpa using hcs, ?_, ?_, ?_⟩
    · intro hn
      have hpos : 0 < len := by
        rcases Nat.eq_zero_or_pos len with e | e
        · subst e; simp at hn
        · exact e
      obtain ⟨vq, hq⟩ : ∃ v, W.cell? (a.add 0) = some v := ⟨_, (hby 0 (by omega)).1⟩
      have hblk := block_lt_of_cell hq
      obtain ⟨b, off, sp⟩ := a
      cases sp with
      | some x =>
        exfalso
        clear hby hi hx
        simp [World.cell?, Addr.add] at hq
        split at hq <;> simp_all
      | none =>
        refine ⟨b, off, rfl, ?_, fun i x hx => ?_⟩
        · rw [add_flat] at hblk; exact hblk
        · rw [List.getElem?_map] at hx
          obtain ⟨k, hk, rfl⟩ := Option.map_eq_some_iff.1 hx
          obtain ⟨hlt, rfl⟩ := List.getElem?_eq_some_iff.1 hk
          rw [List.length_range] at hlt
          have := (hby i (by omega)).1
          rw [add_flat] at this
          rw [List.getElem_range, add_flat]
          exact this
    · intro q hq
      obtain ⟨i, hi', rfl⟩ := List.mem_map.1 hq
      exact (hby i (by have := List.mem_range.1 hi'; omega)).2
    · rw [hx]
      have := bulks.slice_le ((List.range len).map D) ((List.range (m - len)).map fun j => D (len + j))
      simp only [List.length_map, List.length_range] at this ⊢
      omega
theorem S_back (s : ByteArray) : S s.data.toList = s := by
  obtain ⟨d⟩ := s
  simp [S]
set_option maxRecDepth 100000 in
theorem open_str {H : Type} {enc : TypeId × Value → H} {W : World} {b0 : Nat} {v : Value} {d : DataW H} {p : List MemPlace}
    (hv : Value.okWide Tryz.prog W .any b0 9 v) (h : DataW.Trod enc Tryz.prog W 0 (fun _ => true) true 9 v d p) : ∃ l : Bs, v = .string (S l) ∧ l.length ≤ Rows.uptoBulk d := by
  obtain ⟨s, rfl⟩ := okWide_string Tryz.underlying9 hv
  obtain ⟨fuel, hf⟩ := h
  obtain ⟨s', hs, hd, _⟩ := DataW.trod_string Tryz.underlying9 hf
  have e : s = s' := by simpa [Value.cells] using hs
  subst e
  refine ⟨s.data.toList, by rw [S_back], ?_⟩
  have hd' : d = .lit (.string s.data.toList) := congrArg Prod.fst hd
  rw [hd', bulks.string_eq]
  omega
set_option maxRecDepth 100000 in
theorem open_i64 {H : Type} {enc : TypeId × Value → H} {W : World} {b0 : Nat} {v : Value} {d : DataW H} {p : List MemPlace}
    (hv : Value.okWide Tryz.prog W .any b0 3 v) (h : DataW.Trod enc Tryz.prog W 0 (fun _ => true) true 3 v d p) : ∃ n : Int, v = .int .i64 n ∧ I64 n := by
  obtain ⟨n, rfl⟩ := okWide_int (k := .i64) (by kernel_rfl) hv
  obtain ⟨fuel, hf⟩ := h
  obtain ⟨q, hq, _, wq⟩ := DataW.trod_int (k := .i64) (by kernel_rfl) hf
  have e : n = q := by simpa [Value.cells] using hq
  subst e
  exact ⟨n, rfl, by show -9223372036854775808 ≤ n ∧ n ≤ 9223372036854775807; simpa [Lit.wf, IntKind.min, IntKind.max, IntKind.signed, IntKind.bits] using wq⟩
set_option maxRecDepth 100000 in
/-- the command that is handed in -/
theorem open_cmd {H : Type} {enc : TypeId × Value → H} {W : World} {b0 : Nat} {v : Value} {d : DataW H} {p : List MemPlace} (hbk : Rows.uptoBulk d ≤ 1048576)
    (hv : Value.okWide Tryz.prog W .any b0 28 v) (h : DataW.Trod enc Tryz.prog W 0 (fun _ => true) true 28 v d p) :
    ∃ (c : Cmd) (A : Option Addr) (a : Nat) (Q : Option Addr) (q : Nat), v = .agg (cmdC c (.slice A c.raw.length a) (.slice Q c.picks.length q)) ∧ BytesAt W W.heap.size A c.raw ∧ IntsAt W W.heap.size Q c.picks ∧ cmdI c := by
  obtain ⟨cs, rfl, hsz⟩ := okWide_struct Tryz.underlying28 hv
  have hC : Tryz.prog.cellsOf 28 = 14 := by kernel_rfl
  have hCR : Tryz.prog.cellsOf 24 = 9 := by kernel_rfl
  have k1 : Tryz.prog.cellsOf 3 = 1 := by kernel_rfl
  have k2 : Tryz.prog.cellsOf 2 = 1 := by kernel_rfl
  have k3 : Tryz.prog.cellsOf 22 = 1 := by kernel_rfl
  have k4 : Tryz.prog.cellsOf 9 = 1 := by kernel_rfl
  have k5 : Tryz.prog.cellsOf 25 = 1 := by kernel_rfl
  have k6 : Tryz.prog.cellsOf 26 = 1 := by kernel_rfl
  obtain ⟨l⟩ := cs
  match l, hsz.trans hC with
  | [c0, c1, c2, c3, c4, c5, c6, c7, c8, c9, c10, c11, c12, c13], _ =>
    obtain ⟨fuel, hf⟩ := h
    obtain ⟨xs, n, _, hx, _, hlen, hg⟩ := DataW.trod_struct Tryz.underlying28 hf
    match xs, hlen with
    | [y0, y1, y2, y3, y4, y5], _ =>
      have g0 : DataW.trod enc Tryz.prog W 0 (fun _ => true) true n 3 (List.take (Tryz.prog.cellsOf 3) (List.drop 0 [c0, c1, c2, c3, c4, c5, c6, c7, c8, c9, c10, c11, c12, c13])) = some y0 := hg 0 _ rfl
      rw [k1] at g0
      have g0' : DataW.trod enc Tryz.prog W 0 (fun _ => true) true n 3 [c0] = some y0 := g0
      have g1 : DataW.trod enc Tryz.prog W 0 (fun _ => true) true n 3 (List.take (Tryz.prog.cellsOf 3) (List.drop 1 [c0, c1, c2, c3, c4, c5, c6, c7, c8, c9, c10, c11, c12, c13])) = some y1 := hg 1 _ rfl
      rw [k1] at g1
      have g1' : DataW.trod enc Tryz.prog W 0 (fun _ => true) true n 3 [c1] = some y1 := g1
      have g2 : DataW.trod enc Tryz.prog W 0 (fun _ => true) true n 24 (List.take (Tryz.prog.cellsOf 24) (List.drop 2 [c0, c1, c2, c3, c4, c5, c6, c7, c8, c9, c10, c11, c12, c13])) = some y2 := hg 2 _ rfl
      rw [hCR] at g2
      have g2' : DataW.trod enc Tryz.prog W 0 (fun _ => true) true n 24 [c2, c3, c4, c5, c6, c7, c8, c9, c10] = some y2 := g2
      have g3 : DataW.trod enc Tryz.prog W 0 (fun _ => true) true n 25 (List.take (Tryz.prog.cellsOf 25) (List.drop 11 [c0, c1, c2, c3, c4, c5, c6, c7, c8, c9, c10, c11, c12, c13])) = some y3 := hg 3 _ rfl
      rw [k5] at g3
      have g3' : DataW.trod enc Tryz.prog W 0 (fun _ => true) true n 25 [c11] = some y3 := g3
      have g4 : DataW.trod enc Tryz.prog W 0 (fun _ => true) true n 2 (List.take (Tryz.prog.cellsOf 2) (List.drop 12 [c0, c1, c2, c3, c4, c5, c6, c7, c8, c9, c10, c11, c12, c13])) = some y4 := hg 4 _ rfl
      rw [k2] at g4
      have g4' : DataW.trod enc Tryz.prog W 0 (fun _ => true) true n 2 [c12] = some y4 := g4
      have g5 : DataW.trod enc Tryz.prog W 0 (fun _ => true) true n 26 (List.take (Tryz.prog.cellsOf 26) (List.drop 13 [c0, c1, c2, c3, c4, c5, c6, c7, c8, c9, c10, c11, c12, c13])) = some y5 := hg 5 _ rfl
      rw [k6] at g5
      have g5' : DataW.trod enc Tryz.prog W 0 (fun _ => true) true n 26 [c13] = some y5 := g5
      clear g0 g1 g2 g3 g4 g5 hg
      obtain ⟨zs, m, _, hz, _, hzlen, hh⟩ := DataW.trod_struct Tryz.underlying24 g2'
      match zs, hzlen with
      | [z0, z1, z2, z3, z4, z5, z6, z7, z8], _ =>
        have r0 : DataW.trod enc Tryz.prog W 0 (fun _ => true) true m 22 (List.take (Tryz.prog.cellsOf 22) (List.drop 0 [c2, c3, c4, c5, c6, c7, c8, c9, c10])) = some z0 := hh 0 _ rfl
        rw [k3] at r0
        have r0' : DataW.trod enc Tryz.prog W 0 (fun _ => true) true m 22 [c2] = some z0 := r0
        have r1 : DataW.trod enc Tryz.prog W 0 (fun _ => true) true m 3 (List.take (Tryz.prog.cellsOf 3) (List.drop 1 [c2, c3, c4, c5, c6, c7, c8, c9, c10])) = some z1 := hh 1 _ rfl
        rw [k1] at r1
        have r1' : DataW.trod enc Tryz.prog W 0 (fun _ => true) true m 3 [c3] = some z1 := r1
        have r2 : DataW.trod enc Tryz.prog W 0 (fun _ => true) true m 9 (List.take (Tryz.prog.cellsOf 9) (List.drop 2 [c2, c3, c4, c5, c6, c7, c8, c9, c10])) = some z2 := hh 2 _ rfl
        rw [k4] at r2
        have r2' : DataW.trod enc Tryz.prog W 0 (fun _ => true) true m 9 [c4] = some z2 := r2
        have r3 : DataW.trod enc Tryz.prog W 0 (fun _ => true) true m 9 (List.take (Tryz.prog.cellsOf 9) (List.drop 3 [c2, c3, c4, c5, c6, c7, c8, c9, c10])) = some z3 := hh 3 _ rfl
        rw [k4] at r3
        have r3' : DataW.trod enc Tryz.prog W 0 (fun _ => true) true m 9 [c5] = some z3 := r3
        have r4 : DataW.trod enc Tryz.prog W 0 (fun _ => true) true m 9 (List.take (Tryz.prog.cellsOf 9) (List.drop 4 [c2, c3, c4, c5, c6, c7, c8, c9, c10])) = some z4 := hh 4 _ rfl
        rw [k4] at r4
        have r4' : DataW.trod enc Tryz.prog W 0 (fun _ => true) true m 9 [c6] = some z4 := r4
        have r5 : DataW.trod enc Tryz.prog W 0 (fun _ => true) true m 2 (List.take (Tryz.prog.cellsOf 2) (List.drop 5 [c2, c3, c4, c5, c6, c7, c8, c9, c10])) = some z5 := hh 5 _ rfl
        rw [k2] at r5
        have r5' : DataW.trod enc Tryz.prog W 0 (fun _ => true) true m 2 [c7] = some z5 := r5
        have r6 : DataW.trod enc Tryz.prog W 0 (fun _ => true) true m 2 (List.take (Tryz.prog.cellsOf 2) (List.drop 6 [c2, c3, c4, c5, c6, c7, c8, c9, c10])) = some z6 := hh 6 _ rfl
        rw [k2] at r6
        have r6' : DataW.trod enc Tryz.prog W 0 (fun _ => true) true m 2 [c8] = some z6 := r6
        have r7 : DataW.trod enc Tryz.prog W 0 (fun _ => true) true m 2 (List.take (Tryz.prog.cellsOf 2) (List.drop 7 [c2, c3, c4, c5, c6, c7, c8, c9, c10])) = some z7 := hh 7 _ rfl
        rw [k2] at r7
        have r7' : DataW.trod enc Tryz.prog W 0 (fun _ => true) true m 2 [c9] = some z7 := r7
        have r8 : DataW.trod enc Tryz.prog W 0 (fun _ => true) true m 2 (List.take (Tryz.prog.cellsOf 2) (List.drop 8 [c2, c3, c4, c5, c6, c7, c8, c9, c10])) = some z8 := hh 8 _ rfl
        rw [k2] at r8
        have r8' : DataW.trod enc Tryz.prog W 0 (fun _ => true) true m 2 [c10] = some z8 := r8
        clear hh r0 r1 r2 r3 r4 r5 r6 r7 r8
        have hint : ∀ (k : Nat) (t : TypeId) (v : Value) (y : DataW H × List MemPlace), Tryz.prog.underlying t = some (.int .i64) → DataW.trod enc Tryz.prog W 0 (fun _ => true) true k t [v] = some y → ∃ q, v = .int .i64 q ∧ I64 q := by
          intro k t v y hu ht
          obtain ⟨q, hv, _, wq⟩ := DataW.trod_int hu ht
          simp at hv
          exact ⟨q, hv, by show -9223372036854775808 ≤ q ∧ q ≤ 9223372036854775807; simpa [Lit.wf, IntKind.min, IntKind.max, IntKind.signed, IntKind.bits] using wq⟩
        have hstr : ∀ (k : Nat) (v : Value) (y : DataW H × List MemPlace), DataW.trod enc Tryz.prog W 0 (fun _ => true) true k 9 [v] = some y → ∃ s : Bs, v = .string (S s) ∧ y.1 = .lit (.string s) := by
          intro k v y ht
          obtain ⟨s, hv, hd, _⟩ := DataW.trod_string Tryz.underlying9 ht
          simp at hv
          exact ⟨s.data.toList, by rw [S_back]; exact hv, congrArg Prod.fst hd⟩
        obtain ⟨q0, rfl, w0⟩ := hint _ _ c0 y0 (by kernel_rfl) g0'
        obtain ⟨q1, rfl, w1⟩ := hint _ _ c1 y1 (by kernel_rfl) g1'
        obtain ⟨q4, rfl, w4⟩ := hint _ _ c12 y4 (by kernel_rfl) g4'
        obtain ⟨A, a, lr, rfl, hra, hrl⟩ := open_bytes g3'
        obtain ⟨Q, q, lp, rfl, hpa, hpi, hpl⟩ := open_ints g5'
        obtain ⟨i0, e0, _, v0⟩ := DataW.trod_int (k := .u32) (by kernel_rfl) r0'
        simp at e0
        subst e0
        obtain ⟨i1, rfl, v1⟩ := hint _ _ c3 z1 (by kernel_rfl) r1'
        obtain ⟨s2, rfl, u2⟩ := hstr _ c4 z2 r2'
        obtain ⟨s3, rfl, u3⟩ := hstr _ c5 z3 r3'
        obtain ⟨s4, rfl, u4⟩ := hstr _ c6 z4 r4'
        obtain ⟨i5, rfl, v5⟩ := hint _ _ c7 z5 (by kernel_rfl) r5'
        obtain ⟨i6, rfl, v6⟩ := hint _ _ c8 z6 (by kernel_rfl) r6'
        obtain ⟨i7, rfl, v7⟩ := hint _ _ c9 z7 (by kernel_rfl) r7'
        obtain ⟨i8, rfl, v8⟩ := hint _ _ c10 z8 (by kernel_rfl) r8'
        have hd : d = .agg [y0.1, y1.1, y2.1, y3.1, y4.1, y5.1] := congrArg Prod.fst hx
        have hd2 : y2.1 = .agg [z0.1, z1.1, z2.1, z3.1, z4.1, z5.1, z6.1, z7.1, z8.1] := congrArg Prod.fst hz
        have hid : 0 ≤ i0 ∧ i0 ≤ 4294967295 := by simpa [Lit.wf, IntKind.min, IntKind.max, IntKind.signed, IntKind.bits] using v0
        rw [hd] at hbk
        simp only [Rows.uptoBulk, Rows.uptoBulkAll, hd2, u2, u3, u4] at hbk
        refine ⟨⟨q0, q1, ⟨i0, i1, s2, s3, s4, i5, i6, i7, i8⟩, lr, q4, lp⟩, A, a, Q, q, rfl, hra, hpa, w0, w1, w4, v1, ⟨v5, v6, v7, v8⟩, ⟨hid.1, by show i0 < 4294967296; omega⟩, hpi, ?_, ?_, ?_, ?_, ?_⟩
        · show s2.length ≤ _; omega
        · show s3.length ≤ _; omega
        · show s4.length ≤ _; omega
        · show lr.length ≤ _; omega
        · show lp.length ≤ _; omega
theorem tab_laid {laid : List (String × DataW Unit)} {W : World} (hL : laidMet Tryz.prog laid W) (hf : laid.filter (fun x => x.1 == "internal/strconv.uint64pow10") = [("internal/strconv.uint64pow10", Lib.tabData .u64 Lib.pow10Tab)]) : Tab W := by
  have h := hL.filter (fun x => x.1 == "internal/strconv.uint64pow10")
  rw [hf] at h
  exact Lib.tabIs_of_head (g := 3) (t := 139) (e := 89) (n := 20) (by kernel_rfl) (by kernel_rfl) (by kernel_rfl) (by kernel_rfl) (by kernel_rfl) (by kernel_rfl) h
theorem cells_of_int1 {H : Type} {enc : TypeId × Value → H} {P : Program} {w : World} {base : Nat} {sp : Nat → Bool} {held : Bool} {fuel : Nat} {t e ei : TypeId} {f : Field} {n : Nat} {cs : List Value} {zs : List Int} {p : List MemPlace}
    (ht : P.underlying t = some (.array n e)) (he : P.underlying e = some (.struct #[f])) (hft : f.type = ei) (hfo : f.offset = 0) (hei : P.underlying ei = some (.int .i64)) (hce : P.cellsOf e = 1) (hcei : P.cellsOf ei = 1) (hct : P.cellsOf t = n)
    (h : DataW.trod enc P w base sp held fuel t cs = some (.agg (zs.map fun z => .agg [.lit (.int .i64 z)]), p)) : cs = zs.map fun z => Value.int .i64 z := by
  cases fuel with
  | zero => simp [DataW.trod] at h
  | succ fuel =>
    simp only [DataW.trod, ht, hce, hct, Nat.mul_one] at h
    split at h
    · rename_i hl
      obtain ⟨xs, hm, hx⟩ := Option.map_eq_some_iff.1 h
      have hxs : xs.map (·.1) = zs.map fun z => (DataW.agg [.lit (.int .i64 z)] : DataW H) := by
        have := congrArg Prod.fst hx
        simpa using this
      have hxl : xs.length = n := by simpa using Lib.mapM_length hm
      have hzl : zs.length = n := by
        have := congrArg List.length hxs
        simp at this
        omega
      apply List.ext_getElem?
      intro i
      by_cases hi : i < n
      · obtain ⟨b, hb, hf⟩ := Lib.mapM_at hm i i (by simp [hi])
        obtain ⟨ys, m, _, hy, hcl, hyl, hg⟩ := DataW.trod_struct he hf
        have hg0 := hg 0 f rfl
        rw [hft, hfo, hcei, List.drop_zero] at hg0
        have hy1 : ys.length = 1 := hyl
        match ys, hy1 with
        | [y], _ =>
          have hg1 : DataW.trod enc P w base sp held m ei (List.take 1 (List.take 1 (List.drop i cs))) = some y := hg0
          rw [List.take_take, Nat.min_self] at hg1
          obtain ⟨q, hc, hq, _⟩ := DataW.trod_int hei hg1
          have h1 : cs[i]? = some (.int .i64 q) := by
            have := congrArg (·[0]?) hc
            simpa [List.getElem?_take, List.getElem?_drop] using this
          have h2 : (xs.map (·.1))[i]? = some (DataW.agg [.lit (.int .i64 q)] : DataW H) := by
            have e1 : b.1 = (DataW.agg [y.1] : DataW H) := congrArg Prod.fst hy
            have e2 : y.1 = (DataW.lit (.int .i64 q) : DataW H) := congrArg Prod.fst hq
            rw [List.getElem?_map, hb, Option.map_some, e1, e2]
          rw [hxs] at h2
          simp only [List.getElem?_map, Option.map_eq_some_iff] at h2
          obtain ⟨z', hz', e⟩ := h2
          injection e with e
          injection e with e _
          injection e with e
          injection e with _ e
          rw [h1, List.getElem?_map, hz', e, Option.map_some]
      · rw [List.getElem?_eq_none (by omega), List.getElem?_eq_none (by simp; omega)]
    · cases h
theorem use_laid {laid : List (String × DataW Unit)} {W : World} (hL : laidMet Tryz.prog laid W) (hf : laid.filter (fun x => x.1 == "chronicle/wire.uses") = [("chronicle/wire.uses", .agg (((List.range 16).map bitsN).map fun z => .agg [.lit (.int .i64 z)]))]) : Use W := by
  have h := hL.filter (fun x => x.1 == "chronicle/wire.uses")
  rw [hf] at h
  obtain ⟨ps, ⟨g', t', cs, fuel, p, q, hg', ht', hvar, hd, _, _⟩, _⟩ := h
  have hg : Tryz.prog.globalNamed "chronicle/wire.uses" = some 1 := by kernel_rfl
  have hty : (Tryz.prog.globals[1]?).map (·.type) = some 111 := by kernel_rfl
  obtain rfl := Option.some.inj (hg.symm.trans hg')
  obtain rfl := Option.some.inj (hty.symm.trans ht')
  have hcs := cells_of_int1 (n := 16) (e := 110) (ei := 3) Tryz.underlying111 Tryz.underlying110 rfl rfl (by kernel_rfl) (by kernel_rfl) (by kernel_rfl) (by kernel_rfl) hd
  have hcell : ∀ i, i < 16 → W.cell? ⟨1, i, none⟩ = some (.int .i64 (bitsN i)) := by
    intro i hi
    have := World.var?_cell hg hvar i
    rw [this, ← Array.getElem?_toList, hcs]
    simp [hi]
  exact ⟨block_lt_of_cell (hcell 0 (by decide)), hcell⟩
end Go.Proofs.YtepalbldleegiaaGreatDoor.sh
