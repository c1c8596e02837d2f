/-
  A slice of records that came in, opened: its records, where they lie, their numbers and texts within their bounds.
  Conditions: none.
-/
import Derived.Test.YtjlfpcgopenkmaaOpen
import Derived.Test.YtjlfpcgopenkmaaCpb
namespace Go.Proofs.Ytjlfpcgopenkmaa.cp
open Go.RowKit Go.ChangeShapes Go.WideShapes Go.Deep

def toInt : Option Value → Int
  | some (.int _ q) => q
  | _ => 0
def toStr : Option Value → ByteArray
  | some (.string s) => s
  | _ => ByteArray.empty
def rcAt (W : World) (a : Addr) (i : Nat) : Rc :=
  ⟨toInt (W.cell? (a.add (i * 7 + 0))), toInt (W.cell? (a.add (i * 7 + 1))), toInt (W.cell? (a.add (i * 7 + 2))), toInt (W.cell? (a.add (i * 7 + 3))), toInt (W.cell? (a.add (i * 7 + 4))),
    toStr (W.cell? (a.add (i * 7 + 5))), toStr (W.cell? (a.add (i * 7 + 6)))⟩

theorem open_recs {H : Type} {enc : TypeId × Value → H} {W : World} {fuel : Nat} {a0 : Option Addr} {len cap : Nat} {x : DataW H × List MemPlace}
    (h : DataW.trod enc Try.prog W 0 (fun _ => true) true fuel 26 (Value.slice a0 len cap).cells.toList = some x) :
    ∃ l : List Rc, len = l.length ∧ Recs W W.heap.size a0 l ∧ (∀ r ∈ l, r.ok) ∧ (l = [] ∨ ∃ es sp, x.1 = .slice es sp ∧ es.length = l.length) := by
  rcases open_slice_fields Try.underlying26 Try.underlying33 (by kernel_rfl) (by kernel_rfl) h with ⟨hcs, _⟩ | ⟨a, len', cap', m, D, Pl, hcs, _, hl, hm, hmm, hx, hi⟩
  · simp [Value.cells] at hcs
    obtain ⟨rfl, rfl, rfl⟩ := hcs
    exact ⟨[], rfl, fun hn => absurd rfl hn, fun r hr => by simp at hr, .inl rfl⟩
  · simp [Value.cells] at hcs
    obtain ⟨rfl, rfl, rfl⟩ := hcs
    simp only [if_true] at hmm
    subst hmm
    have hint : ∀ (i : Nat) (n : Nat) (t : TypeId) (v : Value) (y : DataW H × List MemPlace) (p : Addr), Try.prog.underlying t = some (.int .i64) → W.cell? p = some v → DataW.trod enc Try.prog W 0 (fun _ => true) true n t [v] = some y → W.cell? p = some (.int .i64 (toInt (W.cell? p))) ∧ I64 (toInt (W.cell? p)) := by
      intro i n t v y p hu hc ht
      obtain ⟨q, hv, _, wq⟩ := DataW.trod_int hu ht
      simp at hv
      subst hv
      rw [hc]
      exact ⟨rfl, by show -9223372036854775808 ≤ q ∧ q ≤ 9223372036854775807; simpa [Lit.wf, IntKind.min, IntKind.max, IntKind.signed, IntKind.bits] using wq⟩
    have hstr : ∀ (n : Nat) (v : Value) (y : DataW H × List MemPlace) (p : Addr), W.cell? p = some v → DataW.trod enc Try.prog W 0 (fun _ => true) true n 9 [v] = some y → W.cell? p = some (.string (toStr (W.cell? p))) ∧ (toStr (W.cell? p)).size ≤ maxLen := by
      intro n v y p hc ht
      obtain ⟨s, hv, _, ws⟩ := DataW.trod_string Try.underlying9 ht
      simp at hv
      subst hv
      rw [hc]
      exact ⟨rfl, ws⟩
    have hrow : ∀ i, i < m → (rcAt W a i).ok ∧ ∀ j v, (RcL (rcAt W a i))[j]? = some v → W.cell? (a.add (i * 7 + j)) = some v := by
      intro i him
      obtain ⟨ys, n, _, _, _, hf⟩ := hi i him
      obtain ⟨v0, y0, c0, _, t0⟩ := hf 0 _ rfl
      obtain ⟨v1, y1, c1, _, t1⟩ := hf 1 _ rfl
      obtain ⟨v2, y2, c2, _, t2⟩ := hf 2 _ rfl
      obtain ⟨v3, y3, c3, _, t3⟩ := hf 3 _ rfl
      obtain ⟨v4, y4, c4, _, t4⟩ := hf 4 _ rfl
      obtain ⟨v5, y5, c5, _, t5⟩ := hf 5 _ rfl
      obtain ⟨v6, y6, c6, _, t6⟩ := hf 6 _ rfl
      have r0 := hint i n _ v0 y0 _ Try.underlying3 c0 t0
      have r1 := hint i n _ v1 y1 _ Try.underlying2 c1 t1
      have r2 := hint i n _ v2 y2 _ Try.underlying2 c2 t2
      have r3 := hint i n _ v3 y3 _ Try.underlying2 c3 t3
      have r4 := hint i n _ v4 y4 _ Try.underlying2 c4 t4
      have r5 := hstr n v5 y5 _ c5 t5
      have r6 := hstr n v6 y6 _ c6 t6
      refine ⟨⟨r0.2, r1.2, r2.2, r3.2, r4.2, r5.2, r6.2⟩, fun j v hv => ?_⟩
      have hj : j < 7 := (List.getElem?_eq_some_iff.1 hv).1
      rcases (by omega : j = 0 ∨ j = 1 ∨ j = 2 ∨ j = 3 ∨ j = 4 ∨ j = 5 ∨ j = 6) with rfl | rfl | rfl | rfl | rfl | rfl | rfl
      · obtain rfl := Option.some.inj hv; exact r0.1
      · obtain rfl := Option.some.inj hv; exact r1.1
      · obtain rfl := Option.some.inj hv; exact r2.1
      · obtain rfl := Option.some.inj hv; exact r3.1
      · obtain rfl := Option.some.inj hv; exact r4.1
      · obtain rfl := Option.some.inj hv; exact r5.1
      · obtain rfl := Option.some.inj hv; exact r6.1
    refine ⟨(List.range len).map (rcAt W a), by simp, ?_, ?_, .inr ⟨_, _, congrArg Prod.fst hx, by simp⟩⟩
    · intro hn
      have hpos : 0 < len := by
        rcases Nat.eq_zero_or_pos len with e | e
        · subst e; simp at hn
        · exact e
      have hq := (hrow 0 (by omega)).2 0 _ rfl
      have hblk := block_lt_of_cell hq
      obtain ⟨b, off, sp⟩ := a
      cases sp with
      | some x =>
        exfalso
        simp [World.cell?, Addr.add] at hq
        split at hq <;> simp_all
      | none =>
        refine ⟨b, off, rfl, ?_, fun i r hr j v hv => ?_⟩
        · rw [add_flat] at hblk; exact hblk
        · rw [List.getElem?_map] at hr
          obtain ⟨k, hk, rfl⟩ := Option.map_eq_some_iff.1 hr
          obtain ⟨hlt, rfl⟩ := List.getElem?_eq_some_iff.1 hk
          rw [List.length_range] at hlt
          have := (hrow i (by omega)).2 j v (by simpa using hv)
          rw [add_flat, ← Nat.add_assoc] at this
          exact this
    · intro r hr
      obtain ⟨i, hi', rfl⟩ := List.mem_map.1 hr
      exact (hrow i (by have := List.mem_range.1 hi'; omega)).1
end Go.Proofs.Ytjlfpcgopenkmaa.cp
