/-
  What the row hands in: a response opened at every cell; the words' table as it was laid.
  Conditions: those of the row.
-/
import Derived.Test.YtepalbldleegiaaGreatDoorSpr
import Derived.Test.YtepalbldleegiaaGreatDoorSwm
namespace Go.Proofs.YtepalbldleegiaaGreatDoor.sh
open Go.ChangeShapes Go.WideShapes Go.Deep
open Go.RowKit
open Go.Lib (itoa decDigits byteCells)

section
variable {H : Type} {enc : TypeId × Value → H} {P : Program} {w : World} {base : Nat} {spare : Nat → Bool} {held : Bool}
theorem open_agg8 {r : Reach} {b0 : Nat} {t : TypeId} {f0 f1 f2 f3 f4 f5 f6 f7 : Field} {v : Value} {d : DataW H} {p : List MemPlace} (hs : P.underlying t = some (.struct #[f0, f1, f2, f3, f4, f5, f6, f7])) (hone : oneCellFields P #[f0, f1, f2, f3, f4, f5, f6, f7] = true) (hC : P.cellsOf t = 8)
    (hv : Value.okWide P w r b0 t v) (h : DataW.Trod enc P w base spare held t v d p) :
    ∃ (v0 v1 v2 v3 v4 v5 v6 v7 : Value) (y0 y1 y2 y3 y4 y5 y6 y7 : DataW H × List MemPlace) (n : Nat), v = .agg #[v0, v1, v2, v3, v4, v5, v6, v7] ∧ d = .agg [y0.1, y1.1, y2.1, y3.1, y4.1, y5.1, y6.1, y7.1] ∧
      DataW.trod enc P w base spare held n f0.type [v0] = some y0 ∧ DataW.trod enc P w base spare held n f1.type [v1] = some y1 ∧ DataW.trod enc P w base spare held n f2.type [v2] = some y2 ∧ DataW.trod enc P w base spare held n f3.type [v3] = some y3 ∧ DataW.trod enc P w base spare held n f4.type [v4] = some y4 ∧ DataW.trod enc P w base spare held n f5.type [v5] = some y5 ∧ DataW.trod enc P w base spare held n f6.type [v6] = some y6 ∧ DataW.trod enc P w base spare held n f7.type [v7] = some y7 := by
  obtain ⟨cs, rfl, hsz⟩ := okWide_struct hs hv
  obtain ⟨l⟩ := cs
  match l, hsz.trans hC with
  | [c0, c1, c2, c3, c4, c5, c6, c7], _ =>
    obtain ⟨fuel, hf⟩ := h
    obtain ⟨xs, n, _, hx, _, hlen, hg⟩ := DataW.trod_struct hs hf
    obtain ⟨o0, k0⟩ := hone_of hone 0 f0 rfl
    obtain ⟨o1, k1⟩ := hone_of hone 1 f1 rfl
    obtain ⟨o2, k2⟩ := hone_of hone 2 f2 rfl
    obtain ⟨o3, k3⟩ := hone_of hone 3 f3 rfl
    obtain ⟨o4, k4⟩ := hone_of hone 4 f4 rfl
    obtain ⟨o5, k5⟩ := hone_of hone 5 f5 rfl
    obtain ⟨o6, k6⟩ := hone_of hone 6 f6 rfl
    obtain ⟨o7, k7⟩ := hone_of hone 7 f7 rfl
    match xs, hlen with
    | [y0, y1, y2, y3, y4, y5, y6, y7], _ =>
      simp only [Prod.mk.injEq] at hx
      exact ⟨c0, c1, c2, c3, c4, c5, c6, c7, y0, y1, y2, y3, y4, y5, y6, y7, n, rfl, by simpa using hx.1, by simpa [Value.cells, o0, k0] using hg 0 f0 rfl, by simpa [Value.cells, o1, k1] using hg 1 f1 rfl, by simpa [Value.cells, o2, k2] using hg 2 f2 rfl, by simpa [Value.cells, o3, k3] using hg 3 f3 rfl, by simpa [Value.cells, o4, k4] using hg 4 f4 rfl, by simpa [Value.cells, o5, k5] using hg 5 f5 rfl, by simpa [Value.cells, o6, k6] using hg 6 f6 rfl, by simpa [Value.cells, o7, k7] using hg 7 f7 rfl⟩
end

def bsOf : Option Value → Bs
  | some (.string s) => s.data.toList
  | _ => []
def intAt : Option Value → Int
  | some (.int _ n) => n
  | _ => 0
theorem S_of (s : ByteArray) : S s.data.toList = s := by
  obtain ⟨d⟩ := s
  simp [S]
def recAt (W : World) (a : Addr) (i : Nat) : Rec := ⟨intAt (W.cell? (a.add (i * 7 + 0))), intAt (W.cell? (a.add (i * 7 + 1))), intAt (W.cell? (a.add (i * 7 + 2))), intAt (W.cell? (a.add (i * 7 + 3))), intAt (W.cell? (a.add (i * 7 + 4))), bsOf (W.cell? (a.add (i * 7 + 5))), bsOf (W.cell? (a.add (i * 7 + 6)))⟩

theorem lenN_bulk {H : Type} (f : Nat → Bs) (D : Nat → DataW H) : ∀ L : List Nat, (∀ i ∈ L, 1 + (f i).length ≤ Rows.uptoBulk (D i)) → lenN (L.map f) ≤ Rows.uptoBulkAll (L.map D) := by
  intro L
  induction L with
  | nil => intro _; simp [lenN]
  | cons i L ih =>
    intro h
    have h1 := h i List.mem_cons_self
    have h2 := ih fun j hj => h j (List.mem_cons_of_mem _ hj)
    simp only [List.map_cons, lenN, List.sum_cons, Rows.uptoBulkAll] at h2 ⊢
    omega
theorem lenR_bulk {H : Type} (f : Nat → Rec) (D : Nat → DataW H) : ∀ L : List Nat, (∀ i ∈ L, 1 + (f i).key.length + (f i).val.length ≤ Rows.uptoBulk (D i)) → lenR (L.map f) ≤ Rows.uptoBulkAll (L.map D) := by
  intro L
  induction L with
  | nil => intro _; simp [lenR]
  | cons i L ih =>
    intro h
    have h1 := h i List.mem_cons_self
    have h2 := ih fun j hj => h j (List.mem_cons_of_mem _ hj)
    simp only [List.map_cons, lenR, List.sum_cons, Rows.uptoBulkAll] at h2 ⊢
    omega

theorem open_names {H : Type} {enc : TypeId × Value → H} {W : World} {fuel : Nat} {v : Value} {x : DataW H × List MemPlace}
    (h : DataW.trod enc Tryz.prog W 0 (fun _ => true) true fuel 43 [v] = some x) :
    ∃ (D : Option Addr) (d : Nat) (l : List Bs), v = .slice D l.length d ∧ NamesAt W W.heap.size D l ∧ lenN l ≤ Rows.uptoBulk x.1 := by
  rcases open_slice1 Tryz.underlying43 (by kernel_rfl) h with ⟨hcs, _⟩ | ⟨a, len, cap, m, n, V, D, Pl, hcs, _, hl, hm, hmm, hx, hi⟩
  · simp at hcs
    exact ⟨none, 0, [], hcs, fun hn => absurd rfl hn, by simp [lenN]⟩
  · simp at hcs
    simp only [if_true] at hmm
    subst hmm
    have hstr : ∀ i, i < m → W.cell? (a.add i) = some (.string (S (bsOf (W.cell? (a.add i))))) ∧ D i = .lit (.string (bsOf (W.cell? (a.add i)))) := by
      intro i him
      obtain ⟨hc, ht⟩ := hi i him
      obtain ⟨s, hv, hd, _⟩ := DataW.trod_string Tryz.underlying9 ht
      simp at hv
      rw [hv] at hc
      rw [hc]
      exact ⟨by rw [show bsOf (some (Value.string s)) = s.data.toList from rfl, S_of], congrArg Prod.fst hd⟩
    refine ⟨some a, m, (List.range len).map fun i => bsOf (W.cell? (a.add i)), by simpa using hcs, ?_, ?_⟩
    · intro hn
      have hpos : 0 < len := by
        rcases Nat.eq_zero_or_pos len with e | e
        · subst e; simp at hn
        · exact e
      obtain ⟨vq, hq⟩ : ∃ v, W.cell? (a.add 0) = some v := ⟨_, (hstr 0 (by omega)).1⟩
      have hblk := block_lt_of_cell hq
      obtain ⟨b, off, sp⟩ := a
      cases sp with
      | some x =>
        exfalso
        clear hstr hi hx
        simp [World.cell?, Addr.add] at hq
        split at hq <;> simp_all
      | none =>
        refine ⟨b, off, rfl, ?_, fun i x hx => ?_⟩
        · rw [add_flat] at hblk; exact hblk
        · rw [List.getElem?_map] at hx
          obtain ⟨k, hk, rfl⟩ := Option.map_eq_some_iff.1 hx
          obtain ⟨hlt, rfl⟩ := List.getElem?_eq_some_iff.1 hk
          rw [List.length_range] at hlt
          have := (hstr i (by omega)).1
          rw [add_flat] at this
          rw [List.getElem_range, add_flat]
          exact this
    · rw [hx]
      have := bulks.slice_elems ((List.range len).map D) ((List.range (m - len)).map fun j => D (len + j))
      refine Nat.le_trans (lenN_bulk _ D _ fun i hi => ?_) (Nat.le_of_succ_le this)
      rw [(hstr i (by have := List.mem_range.1 hi; omega)).2, bulks.string_eq]
      omega

theorem open_recs {H : Type} {enc : TypeId × Value → H} {W : World} {fuel : Nat} {v : Value} {x : DataW H × List MemPlace}
    (h : DataW.trod enc Tryz.prog W 0 (fun _ => true) true fuel 42 [v] = some x) :
    ∃ (A : Option Addr) (c : Nat) (l : List Rec), v = .slice A l.length c ∧ RecsAt W W.heap.size A l ∧ (∀ r ∈ l, r.ok) ∧ lenR l ≤ Rows.uptoBulk x.1 := by
  rcases open_slice_fields Tryz.underlying42 Tryz.underlying69 (by kernel_rfl) (by kernel_rfl) h with ⟨hcs, _⟩ | ⟨a, len, cap, m, D, Pl, hcs, _, hl, hm, hmm, hx, hi⟩
  · simp at hcs
    exact ⟨none, 0, [], hcs, fun hn => absurd rfl hn, fun r hr => by simp at hr, by simp [lenR]⟩
  · simp at hcs
    simp only [if_true] at hmm
    subst hmm
    have hint : ∀ (n : Nat) (t : TypeId) (v : Value) (y : DataW H × List MemPlace) (p : Addr), Tryz.prog.underlying t = some (.int .i64) → W.cell? p = some v → DataW.trod enc Tryz.prog W 0 (fun _ => true) true n t [v] = some y → W.cell? p = some (.int .i64 (intAt (W.cell? p))) ∧ I64 (intAt (W.cell? p)) := by
      intro n t v y p hu hc ht
      obtain ⟨q, hv, _, wq⟩ := DataW.trod_int hu ht
      simp at hv
      subst hv
      rw [hc]
      exact ⟨rfl, by show -9223372036854775808 ≤ q ∧ q ≤ 9223372036854775807; simpa [Lit.wf, IntKind.min, IntKind.max, IntKind.signed, IntKind.bits] using wq⟩
    have hstr : ∀ (n : Nat) (v : Value) (y : DataW H × List MemPlace) (p : Addr), W.cell? p = some v → DataW.trod enc Tryz.prog W 0 (fun _ => true) true n 9 [v] = some y → W.cell? p = some (.string (S (bsOf (W.cell? p)))) ∧ y.1 = .lit (.string (bsOf (W.cell? p))) := by
      intro n v y p hc ht
      obtain ⟨s, hv, hd, _⟩ := DataW.trod_string Tryz.underlying9 ht
      simp at hv
      subst hv
      rw [hc]
      exact ⟨by rw [show bsOf (some (Value.string s)) = s.data.toList from rfl, S_of], congrArg Prod.fst hd⟩
    have hrow : ∀ i, i < m → (recAt W a i).ok ∧ (∀ j v, (recL (recAt W a i))[j]? = some v → W.cell? (a.add (i * 7 + j)) = some v) ∧ 1 + (recAt W a i).key.length + (recAt W a i).val.length ≤ Rows.uptoBulk (D i) := by
      intro i him
      obtain ⟨ys, n, hD, _, hyl, hf⟩ := hi i him
      obtain ⟨v0, y0, c0, _, t0⟩ := hf 0 _ rfl
      obtain ⟨v1, y1, c1, _, t1⟩ := hf 1 _ rfl
      obtain ⟨v2, y2, c2, _, t2⟩ := hf 2 _ rfl
      obtain ⟨v3, y3, c3, _, t3⟩ := hf 3 _ rfl
      obtain ⟨v4, y4, c4, _, t4⟩ := hf 4 _ rfl
      obtain ⟨v5, y5, c5, e5, t5⟩ := hf 5 _ rfl
      obtain ⟨v6, y6, c6, e6, t6⟩ := hf 6 _ rfl
      have r0 := hint n _ v0 y0 _ (by kernel_rfl) c0 t0
      have r1 := hint n _ v1 y1 _ (by kernel_rfl) c1 t1
      have r2 := hint n _ v2 y2 _ (by kernel_rfl) c2 t2
      have r3 := hint n _ v3 y3 _ (by kernel_rfl) c3 t3
      have r4 := hint n _ v4 y4 _ (by kernel_rfl) c4 t4
      have r5 : W.cell? (a.add (i * 7 + 5)) = some (.string (S (bsOf (W.cell? (a.add (i * 7 + 5)))))) ∧ y5.1 = .lit (.string (bsOf (W.cell? (a.add (i * 7 + 5))))) := hstr n v5 y5 _ c5 t5
      have r6 : W.cell? (a.add (i * 7 + 6)) = some (.string (S (bsOf (W.cell? (a.add (i * 7 + 6)))))) ∧ y6.1 = .lit (.string (bsOf (W.cell? (a.add (i * 7 + 6))))) := hstr n v6 y6 _ c6 t6
      refine ⟨⟨r0.2, r1.2, r2.2, r3.2, r4.2⟩, fun j v hv => ?_, ?_⟩
      · have hj : j < 7 := (List.getElem?_eq_some_iff.1 hv).1
        rcases (by omega : j = 0 ∨ j = 1 ∨ j = 2 ∨ j = 3 ∨ j = 4 ∨ j = 5 ∨ j = 6) with rfl | rfl | rfl | rfl | rfl | rfl | rfl
        · obtain rfl := Option.some.inj hv; exact r0.1
        · obtain rfl := Option.some.inj hv; exact r1.1
        · obtain rfl := Option.some.inj hv; exact r2.1
        · obtain rfl := Option.some.inj hv; exact r3.1
        · obtain rfl := Option.some.inj hv; exact r4.1
        · obtain rfl := Option.some.inj hv; exact r5.1
        · obtain rfl := Option.some.inj hv; exact r6.1
      · rw [hD]
        have hyl' : ys.length = 7 := hyl
        match ys, hyl', e5, e6 with
        | [z0, z1, z2, z3, z4, z5, z6], _, e5, e6 =>
          obtain rfl := Option.some.inj e5
          obtain rfl := Option.some.inj e6
          have g5 := r5.2
          have g6 := r6.2
          simp only [List.map_cons, List.map_nil, Rows.uptoBulk, Rows.uptoBulkAll]
          rw [g5, g6, bulks.string_eq, bulks.string_eq]
          show 1 + (bsOf (W.cell? (a.add (i * 7 + 5)))).length + (bsOf (W.cell? (a.add (i * 7 + 6)))).length ≤ _
          omega
    refine ⟨some a, m, (List.range len).map (recAt W a), by simpa using hcs, ?_, ?_, ?_⟩
    · intro hn
      have hpos : 0 < len := by
        rcases Nat.eq_zero_or_pos len with e | e
        · subst e; simp at hn
        · exact e
      have hq := (hrow 0 (by omega)).2.1 0 _ rfl
      have hblk := block_lt_of_cell hq
      obtain ⟨b, off, sp⟩ := a
      cases sp with
      | some x =>
        exfalso
        simp [World.cell?, Addr.add] at hq
        split at hq <;> simp_all
      | none =>
        refine ⟨b, off, rfl, ?_, fun i r hr j v hv => ?_⟩
        · rw [add_flat] at hblk; exact hblk
        · rw [List.getElem?_map] at hr
          obtain ⟨k, hk, rfl⟩ := Option.map_eq_some_iff.1 hr
          obtain ⟨hlt, rfl⟩ := List.getElem?_eq_some_iff.1 hk
          rw [List.length_range] at hlt
          have := (hrow i (by omega)).2.1 j v (by simpa using hv)
          rw [add_flat, ← Nat.add_assoc] at this
          exact this
    · intro r hr
      obtain ⟨i, hi', rfl⟩ := List.mem_map.1 hr
      exact (hrow i (by have := List.mem_range.1 hi'; omega)).1
    · rw [hx]
      have := bulks.slice_elems ((List.range len).map D) ((List.range (m - len)).map fun j => D (len + j))
      exact Nat.le_trans (lenR_bulk _ D _ fun i hi => (hrow i (by have := List.mem_range.1 hi; omega)).2.2) (Nat.le_of_succ_le this)

set_option maxRecDepth 100000 in
/-- the response that is handed in -/
theorem open_rsp {H : Type} {enc : TypeId × Value → H} {W : World} {b0 : Nat} {v : Value} {d : DataW H} {p : List MemPlace}
    (hv : Value.okWide Tryz.prog W .any b0 45 v) (h : DataW.Trod enc Tryz.prog W 0 (fun _ => true) true 45 v d p) :
    ∃ (r : Rsp Rec) (A : Option Addr) (c : Nat) (D : Option Addr) (dd : Nat), v = rspV r A c D dd ∧ (0 ≤ r.id ∧ r.id < 4294967296) ∧ I64 r.op ∧ I64 r.code ∧ I64 r.off ∧ I64 r.num ∧ NamesAt W W.heap.size D r.names ∧ RecsAt W W.heap.size A r.recs ∧ (∀ x ∈ r.recs, x.ok) ∧ lenN r.names ≤ Rows.uptoBulk d ∧ lenR r.recs ≤ Rows.uptoBulk d := by
  obtain ⟨v0, v1, v2, v3, v4, v5, v6, v7, y0, y1, y2, y3, y4, y5, y6, y7, n, rfl, rfl, t0, t1, t2, t3, t4, t5, t6, t7⟩ := open_agg8 Tryz.underlying45 (by kernel_rfl) (by kernel_rfl) hv h
  have hint : ∀ (t : TypeId) (v : Value) (y : DataW H × List MemPlace), Tryz.prog.underlying t = some (.int .i64) → DataW.trod enc Tryz.prog W 0 (fun _ => true) true n t [v] = some y → ∃ q, v = .int .i64 q ∧ I64 q := by
    intro t v y hu ht
    obtain ⟨q, hv, _, wq⟩ := DataW.trod_int hu ht
    simp at hv
    exact ⟨q, hv, by show -9223372036854775808 ≤ q ∧ q ≤ 9223372036854775807; simpa [Lit.wf, IntKind.min, IntKind.max, IntKind.signed, IntKind.bits] using wq⟩
  obtain ⟨q0, e0, _, w0⟩ := DataW.trod_int (k := .u32) (by kernel_rfl) t0
  simp at e0
  obtain ⟨q1, rfl, w1⟩ := hint _ v1 y1 (by kernel_rfl) t1
  obtain ⟨q2, rfl, w2⟩ := hint _ v2 y2 (by kernel_rfl) t2
  obtain ⟨q3, rfl, w3⟩ := hint _ v3 y3 (by kernel_rfl) t3
  obtain ⟨q4, rfl, w4⟩ := hint _ v4 y4 (by kernel_rfl) t4
  obtain ⟨q5, e5, _⟩ := DataW.trod_bool (by kernel_rfl) t5
  simp at e5
  obtain ⟨A, c, l6, rfl, h6, ok6, u6⟩ := open_recs t6
  obtain ⟨D, dd, l7, rfl, h7, u7⟩ := open_names t7
  subst e0 e5
  refine ⟨⟨q0, q1, q2, q3, q4, q5, l7, l6⟩, A, c, D, dd, rfl, ?_, w1, w2, w3, w4, h7, h6, ok6, ?_, ?_⟩
  · have : 0 ≤ q0 ∧ q0 ≤ 4294967295 := by simpa [Lit.wf, IntKind.min, IntKind.max, IntKind.signed, IntKind.bits] using w0
    exact ⟨this.1, by show q0 < 4294967296; omega⟩
  · simp only [Rows.uptoBulk, Rows.uptoBulkAll]
    show lenN l7 ≤ _
    omega
  · simp only [Rows.uptoBulk, Rows.uptoBulkAll]
    show lenR l6 ≤ _
    omega

/-- a table of texts -/
theorem cells_of_strs {H : Type} {enc : TypeId × Value → H} {P : Program} {w : World} {base : Nat} {sp : Nat → Bool} {held : Bool} {fuel : Nat} {t e : TypeId} {n : Nat} {cs : List Value} {zs : List Bs} {p : List MemPlace}
    (ht : P.underlying t = some (.array n e)) (he : P.underlying e = some .string) (hce : P.cellsOf e = 1) (hct : P.cellsOf t = n)
    (h : DataW.trod enc P w base sp held fuel t cs = some (.agg (zs.map fun z => .lit (.string z)), p)) : cs = zs.map fun z => Value.string (S z) := by
  cases fuel with
  | zero => simp [DataW.trod] at h
  | succ fuel =>
    simp only [DataW.trod, ht, hce, hct, Nat.mul_one] at h
    split at h
    · rename_i hl
      obtain ⟨xs, hm, hx⟩ := Option.map_eq_some_iff.1 h
      have hxs : xs.map (·.1) = zs.map fun z => (DataW.lit (.string z) : DataW H) := by
        have := congrArg Prod.fst hx
        simpa using this
      have hxl : xs.length = n := by simpa using Lib.mapM_length hm
      have hzl : zs.length = n := by
        have := congrArg List.length hxs
        simp at this
        omega
      apply List.ext_getElem?
      intro i
      by_cases hi : i < n
      · obtain ⟨b, hb, hf⟩ := Lib.mapM_at hm i i (by simp [hi])
        obtain ⟨z, hc, rfl, _⟩ := DataW.trod_string he hf
        have h1 : cs[i]? = some (.string z) := by
          have := congrArg (·[0]?) hc
          simpa [List.getElem?_take, List.getElem?_drop] using this
        have h2 : (xs.map (·.1))[i]? = some (DataW.lit (.string z.data.toList) : DataW H) := by simp [hb]
        rw [hxs] at h2
        simp only [List.getElem?_map, Option.map_eq_some_iff, DataW.lit.injEq, Lit.string.injEq] at h2
        obtain ⟨z', hz', e⟩ := h2
        rw [h1, List.getElem?_map, hz', e, Option.map_some, S_of]
      · rw [List.getElem?_eq_none (by omega), List.getElem?_eq_none (by simp; omega)]
    · cases h

theorem cod_laid {laid : List (String × DataW Unit)} {W : World} (hL : laidMet Tryz.prog laid W) (hf : laid.filter (fun x => x.1 == "chronicle/shell.codes") = [("chronicle/shell.codes", .agg (codeWords.map fun z => .lit (.string z)))]) : Cod W := by
  have h := hL.filter (fun x => x.1 == "chronicle/shell.codes")
  rw [hf] at h
  obtain ⟨ps, ⟨g', t', cs, fuel, p, q, hg', ht', hvar, hd, _, _⟩, _⟩ := h
  have hg : Tryz.prog.globalNamed "chronicle/shell.codes" = some 0 := by kernel_rfl
  have hty : (Tryz.prog.globals[0]?).map (·.type) = some 70 := by kernel_rfl
  obtain rfl := Option.some.inj (hg.symm.trans hg')
  obtain rfl := Option.some.inj (hty.symm.trans ht')
  have hcs := cells_of_strs (n := 12) (e := 9) (by kernel_rfl) (by kernel_rfl) (by kernel_rfl) (by kernel_rfl) hd
  have hcell : ∀ i, i < 12 → W.cell? ⟨0, i, none⟩ = some (.string (S (codeWords.getD i []))) := by
    intro i hi
    have := World.var?_cell hg hvar i
    rw [this, ← Array.getElem?_toList, hcs]
    have hl : codeWords.length = 12 := rfl
    simp [List.getD, show i < codeWords.length by omega]
  exact ⟨block_lt_of_cell (hcell 0 (by decide)), hcell⟩
end Go.Proofs.YtepalbldleegiaaGreatDoor.sh
