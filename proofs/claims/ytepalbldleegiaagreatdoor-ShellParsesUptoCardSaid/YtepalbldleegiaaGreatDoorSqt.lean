/-
  A region that draws its order: a head of operations that leave the world in a class (calls too), then a tail in one order.
  Conditions: the head waits for nothing behind it; each operation of the head is waited for up to the tail's first; the tail is a chain.
-/
import Derived.Lib.QuietBelow
import Derived.StillTail
import Derived.Test.YtepalbldleegiaaGreatDoorRows
namespace Go.Proofs.YtepalbldleegiaaGreatDoor.sh
open Go
open Go.RowKit

section
variable {P : Program} {ops : Array Oper} {C : World → Prop}

/-- each operation from m up to n is waited for by a later one, n's at the latest -/
def sinksB (ops : Array Oper) (m n : Nat) : Bool :=
  (List.range n).all fun i => decide (i < m) || (List.range (n + 1)).any fun j => decide (i < j) && Region.waitsFor .any ops j i

theorem no_tail {m n : Nat} {listed : Array Bool} (hs : sinksB ops m n = true) (hc : Region.chainB .any ops n = true) (inv : HeadInv .any ops n listed) (hn : n < ops.size) :
    ∀ (d i : Nat), n - i = d → m ≤ i → i < n → listed.getD i true = false → ∀ t, n ≤ t → t ∉ Region.ready .any ops listed := by
  intro d
  induction d using Nat.strongRecOn with
  | _ d ih =>
    intro i hd hm hi hu t ht hr
    have hr' := mem_ready.1 hr
    obtain ⟨-, o, ho, hall⟩ := hr'
    have hts : t < ops.size := (Array.getElem?_eq_some_iff.1 ho).1
    rcases Nat.lt_or_ge n t with hlt | hge
    · have hw := List.all_eq_true.1 hc t (List.mem_range.2 hts)
      simp only [Bool.or_eq_true, decide_eq_true_eq] at hw
      obtain ⟨o', ho', e, he, hb, hon⟩ := Region.waitsFor_spec (hw.resolve_left (by omega))
      rw [ho] at ho'
      cases ho'
      have h2 := hall e he hb
      rw [hon, getD_both (inv.tail (t - 1) (by omega) (by omega))] at h2
      cases h2
    · have htn : t = n := by omega
      subst htn
      have hw := List.all_eq_true.1 hs i (List.mem_range.2 hi)
      simp only [Bool.or_eq_true, decide_eq_true_eq, List.any_eq_true, Bool.and_eq_true] at hw
      obtain ⟨j, hj, hij, hwj⟩ := hw.resolve_left (by omega)
      have hjn := List.mem_range.1 hj
      obtain ⟨o', ho', e, he, hb, hon⟩ := Region.waitsFor_spec hwj
      cases hl : listed.getD j false with
      | true =>
        have h2 := inv.closed j o' ho' hl e he hb
        rw [hon, getD_both hu] at h2
        cases h2
      | false =>
        by_cases hjt : j = t
        · subst hjt
          rw [ho] at ho'
          cases ho'
          have h2 := hall e he hb
          rw [hon, getD_both hu] at h2
          cases h2
        · exact ih (t - j) (by omega) j rfl (by omega) (by omega) (getD_in (by rw [inv.size]; omega) hl) t (Nat.le_refl _) hr

/-- f operations come up, all of the head, each quiet in the class; behind them L -/
def headQ (P : Program) (ops : Array Oper) (C : World → Prop) (n : Nat) (L : Array Bool → Act → Prop) : Nat → Array Bool → Act → Prop
  | 0, listed, a => L listed a
  | f + 1, listed, a => Region.ready .any ops listed ≠ [] ∧ ∀ i ∈ Region.ready .any ops listed, i < n ∧ qOp P ops C i (headQ P ops C n L f (listed.setIfInBounds i true)) a

theorem wpAny_of_headQ {n g : Nat} {L : Array Bool → Act → Prop} {Q : Exit → Act → World → Prop} (hL : ∀ listed a w, C w → L listed a → wpAny P .any ops Q g listed a w) :
    ∀ (f : Nat) (listed : Array Bool) (a : Act) (w : World), C w → headQ P ops C n L f listed a → wpAny P .any ops Q (g + f) listed a w := by
  intro f
  induction f with
  | zero => intro listed a w hw h; exact hL _ _ _ hw h
  | succ f ih =>
    intro listed a w hw h
    exact ⟨fun h0 => absurd h0 h.1, fun i hi => wpOp_of_qOp hw (fun a' w' hw' h' => ih _ a' w' hw' h') (h.2 i hi).2⟩

theorem headQ_take {m n i : Nat} {oi : Oper} {v : Value} {L : Array Bool → Act → Prop} (hi : ops[i]? = some oi) (hsel : ∀ (j : Nat) (o : Oper) cs b, ops[j]? = some o → o.op ≠ .select cs b)
    (hs : sinksB ops m n = true) (hc : Region.chainB .any ops n = true) (hn : n < ops.size) (hmi : m ≤ i) (hin : i < n)
    (hdone : ∀ listed a, L listed a → ∀ j ∈ Region.ready .any ops listed, n ≤ j) :
    ∀ (f : Nat) (listed : Array Bool) (a : Act), HeadInv .any ops n listed →
      (∀ j oj, ops[j]? = some oj → j ≠ i → listed.getD j true = false → (∀ e ∈ oj.after, Region.binds .any e = true → e.on ≠ i) → oi.apart ops oj = true) →
      i ∈ Region.ready .any ops listed → YieldsIn P ops C oi v a →
      headQ P ops C n L f (listed.setIfInBounds i true) (a.put oi.dst v) → headQ P ops C n L (f + 1) listed a := by
  intro f
  induction f with
  | zero =>
    intro listed a inv _ hr hy H
    refine ⟨fun h => (by rw [h] at hr; cases hr), fun j hj => ?_⟩
    have hjn : j < n := Nat.lt_of_not_le fun h => no_tail hs hc inv hn _ i rfl hmi hin (mem_ready.1 hr).1 j h hj
    refine ⟨hjn, ?_⟩
    by_cases hji : j = i
    · subst hji; exact hy.qOp hi H
    · have := hdone _ _ H j (ready_mono hj hji)
      omega
  | succ f ih =>
    intro listed a inv hfree hr hy H
    have hun := (mem_ready.1 hr).1
    refine ⟨fun h => (by rw [h] at hr; cases hr), fun j hj => ?_⟩
    have hjn : j < n := Nat.lt_of_not_le fun h => no_tail hs hc inv hn _ i rfl hmi hin hun j h hj
    refine ⟨hjn, ?_⟩
    by_cases hji : j = i
    · subst hji; exact hy.qOp hi H
    · obtain ⟨hju, oj, hoj, hall⟩ := mem_ready.1 hj
      have hno : ∀ e ∈ oj.after, Region.binds .any e = true → e.on ≠ i := fun e he hb hon => by
        have h2 := hall e he hb
        rw [hon, getD_both hun] at h2
        cases h2
      have h1 := qOp_put hoj (hfree j oj hoj hji hju hno) (fun cs b => hsel i oi cs b hi) (fun cs b => hsel j oj cs b hoj) hy (H.2 j (ready_mono hj hji)).2
      refine qOp_mono (fun a' h3 => ?_) h1
      refine ih (listed.setIfInBounds j true) a' (inv.set hj hjn) (fun k ok hk hki hku hkn => hfree k ok hk hki ?_ hkn) (ready_mono hr (Ne.symm hji)) h3.1 ?_
      · by_cases hjk : j = k
        · subst hjk; exact hju
        · rw [getD_set_ne true hjk] at hku; exact hku
      · rw [Array.setIfInBounds_comm _ _ hji]; exact h3.2

theorem headQ_lex {m n g : Nat} {Lq : Act → Prop} (hsel : Region.noSelect ops = true) (hs : sinksB ops m n = true) (hc : Region.chainB .any ops n = true) (hn : n < ops.size) :
    ∀ (l : List Oper) (k : Nat) (listed : Array Bool) (a : Act), m ≤ k → (∀ j, j < l.length → l[j]? = ops[k + j]?) → k + l.length = n → HeadInv .any ops n listed →
    Region.lexHead .any ops g l.length k listed = true → wpQuiet P ops C Lq l a →
    headQ P ops C n (fun listed' a' => Region.seqB .any ops g n listed' = true ∧ Lq a') l.length listed a := by
  intro l
  induction l with
  | nil =>
    intro k listed a _ _ hk _ hB h
    simp only [List.length_nil, Nat.add_zero] at hk
    subst hk
    exact ⟨hB, h⟩
  | cons o l ih =>
    intro k listed a hmk hl hk inv hB h
    have h0 : ops[k]? = some o := by have := hl 0 (by simp); simpa using this.symm
    simp only [List.length_cons, Region.lexHead, Bool.and_eq_true] at hB
    obtain ⟨⟨hr, hf⟩, hB'⟩ := hB
    have hkn : k < n := by rw [← hk]; simp
    have hrk : k ∈ Region.ready .any ops listed := by simpa using hr
    obtain ⟨v, hy, hK⟩ := yieldsIn_of_qOp (P := P) (C := C) (K := wpQuiet P ops C Lq l) h0 (by unfold qOp; simp only [h0]; exact h)
    refine headQ_take h0 (Region.noSelect_spec hsel) hs hc hn hmk hkn (fun listed' a' hL => seqB_ready hL.1) l.length listed a inv (Region.free_spec h0 hf) hrk hy ?_
    exact ih (k + 1) _ _ (by omega) (fun j hj => by have := hl (j + 1) (by simp; omega); simpa [Nat.add_assoc, Nat.add_comm 1 j] using this) (by simp only [List.length_cons] at hk; omega) (inv.set hrk hkn) hB' hK

/-- what is asked of a region: m operations first, a head up to n, a tail -/
def quietTailB (ops : Array Oper) (m n : Nat) : Bool :=
  Region.noSelect ops && decide (m ≤ n) && decide (n < ops.size) && sinksB ops m n && Region.chainB .any ops n

theorem head_inv0 (n : Nat) : HeadInv .any ops n (Array.replicate ops.size false) :=
  ⟨by simp, fun j oj _ hl => (by rw [getD_replicate_false] at hl; cases hl), fun t _ ht => getD_in (by simpa using ht) (getD_replicate_false _ _)⟩

theorem wpAny_quiet_tail {m n : Nat} {Q : Exit → Act → World → Prop} {a : Act} {w : World} {l : List Oper} {listed : Array Bool} (hB : quietTailB l.toArray m n = true)
    (inv : HeadInv .any l.toArray n listed) (hlex : Region.lexHead .any l.toArray (l.length - n) (n - m) m listed = true) (hC : C w)
    (h : wpQuiet P l.toArray C (fun a' => ∀ w', C w' → wpList P l.toArray Q (l.drop n) a' w') ((l.take n).drop m) a) : wpAny P .any l.toArray Q (l.length - m) listed a w := by
  simp only [quietTailB, Bool.and_eq_true, decide_eq_true_eq] at hB
  obtain ⟨⟨⟨⟨hsel, hmn⟩, hn⟩, hs⟩, hc⟩ := hB
  have hn' : n < l.length := by simpa using hn
  have htl : ((l.take n).drop m).length = n - m := by simp; omega
  have hdl : (l.drop n).length = l.length - n := by simp
  have H := headQ_lex (g := l.length - n) hsel hs hc hn ((l.take n).drop m) m listed a (Nat.le_refl _) (fun j hj => by
    have hj' : m + j < n := by rw [htl] at hj; omega
    simp [hj']) (by rw [htl]; omega) inv (by rw [htl]; exact hlex) h
  have H2 := wpAny_of_headQ (Q := Q) (g := l.length - n) (fun listed' a' w' hw' hL => by
    have := wpAny_of_seq (md := .any) (Q' := Q) (l.drop n) n listed' a' w' (fun j => by simp [List.getElem?_drop]) (by rw [hdl]; exact hL.1) (hL.2 w' hw')
    rwa [hdl] at this) _ _ _ _ hC H
  rw [htl, show l.length - n + (n - m) = l.length - m by omega] at H2
  exact H2

/-- a head that is quiet in the class 'of what was there nothing has turned', then a tail in order -/
theorem wp_quiet_tail {id : Nat} {Q : Exit → Act → World → Prop} {a : Act} {w : World} {l : List Oper} (n : Nat) (hm : P.follows .mixedOrders = true) (hB : quietTailB l.toArray 0 n = true)
    (hlex : Region.lexHead .any l.toArray (l.length - n) n 0 (Array.replicate l.toArray.size false) = true)
    (h : wpQuiet P l.toArray (fun w' => ∃ p : Regrown, w' = Sort.grow (redrawn w p.d) p.os) (fun a' => ∀ w', (∃ p : Regrown, w' = Sort.grow (redrawn w p.d) p.os) → wpList P l.toArray Q (l.drop n) a' w') (l.take n) a) : (Code.region id l.toArray true).wp P Q a w := by
  refine wp_region_any hm ?_
  have := wpAny_quiet_tail (Q := Q) hB (head_inv0 n) (by simpa using hlex) (C := fun w' => ∃ p : Regrown, w' = Sort.grow (redrawn w p.d) p.os) (w := { w with drawn := w.drawn + 1 }) ⟨⟨w.drawn + 1, #[]⟩, by rw [Sort.grow_empty]; rfl⟩ h
  simpa using this

/-- the same behind one first operation that yields its value in whatever world -/
theorem wp_quiet_tail1 {id : Nat} {Q : Exit → Act → World → Prop} {a : Act} {w : World} {o : Oper} {l : List Oper} (n : Nat) (hm : P.follows .mixedOrders = true) (hB : quietTailB (o :: l).toArray 1 n = true)
    (hf : Region.free .any (o :: l).toArray (Array.replicate (o :: l).toArray.size false) 0 = true)
    (hr : (Region.ready .any (o :: l).toArray (Array.replicate (o :: l).toArray.size false)).contains 0 = true)
    (hlex : Region.lexHead .any (o :: l).toArray ((o :: l).length - n) (n - 1) 1 ((Array.replicate (o :: l).toArray.size false).setIfInBounds 0 true) = true)
    (v : Value) (hy : Yields P (o :: l).toArray o v a) (hQ : ∀ c a w, Q (.panic c) (a.put o.dst v) w → Q (.panic c) a w)
    (h : wpQuiet P (o :: l).toArray (fun w' => ∃ p : Regrown, w' = Sort.grow (redrawn w p.d) p.os) (fun a' => ∀ w', (∃ p : Regrown, w' = Sort.grow (redrawn w p.d) p.os) → wpList P (o :: l).toArray Q ((o :: l).drop n) a' w') (((o :: l).take n).drop 1) (a.put o.dst v)) : (Code.region id (o :: l).toArray true).wp P Q a w := by
  refine wp_region_any hm ?_
  have hB' := hB
  simp only [quietTailB, Bool.and_eq_true, decide_eq_true_eq] at hB'
  have hn : 0 < n := hB'.1.1.1.2
  have hz : 0 ∈ Region.ready .any (o :: l).toArray (Array.replicate (o :: l).toArray.size false) := by simpa using hr
  have H := wpAny_quiet_tail (Q := Q) hB ((head_inv0 n).set hz hn) hlex (C := fun w' => ∃ p : Regrown, w' = Sort.grow (redrawn w p.d) p.os) (w := { w with drawn := w.drawn + 1 }) ⟨⟨w.drawn + 1, #[]⟩, by rw [Sort.grow_empty]; rfl⟩ h
  exact wpAny_take (i := 0) (oi := o) (by simp) hB'.1.1.1.1 hf hr hQ hy H
end
end Go.Proofs.YtepalbldleegiaaGreatDoor.sh
