/-
  A region that draws its order: a head that leaves the world in a class, then a tail in one order, but for one operation of the tail that yields in whatever world and is taken first.
  Conditions: as for the law without the hole.
-/
import Derived.Test.YtepalbldleegiaaGreatDoorSqt
import Derived.OwnWalk
import Derived.Laws.AppendOwn
namespace Go.Proofs.YtepalbldleegiaaGreatDoor.sh
open Go
open Go.RowKit

section
variable {P : Program} {ops : Array Oper} {C : World → Prop}

structure HoleInv (ops : Array Oper) (n h : Nat) (listed : Array Bool) : Prop where
  size : listed.size = ops.size
  closed : ∀ j oj, ops[j]? = some oj → listed.getD j false = true → ∀ e ∈ oj.after, Region.binds .any e = true → listed.getD e.on false = true
  tail : ∀ t, n ≤ t → t < ops.size → t ≠ h → listed.getD t true = false

theorem HoleInv.set {n h i : Nat} {listed : Array Bool} (inv : HoleInv ops n h listed) (hi : i ∈ Region.ready .any ops listed) (hin : i < n) : HoleInv ops n h (listed.setIfInBounds i true) := by
  obtain ⟨_, oi, hoi, hall⟩ := mem_ready.1 hi
  refine ⟨by simp [inv.size], fun j oj hj hl e he hb => ?_, fun t ht ht' hth => by rw [getD_set_ne true (by omega)]; exact inv.tail t ht ht' hth⟩
  by_cases hij : i = j
  · subst hij
    have : oj = oi := Option.some.inj (hj.symm.trans hoi)
    subst this
    exact getD_set_true (hall e he hb)
  · rw [getD_set_ne false hij] at hl
    exact getD_set_true (inv.closed j oj hj hl e he hb)

def chainHB (ops : Array Oper) (n h : Nat) : Bool :=
  (List.range ops.size).all fun t => decide (t ≤ n) || decide (t = h) || Region.waitsFor .any ops t (if t = h + 1 then t - 2 else t - 1)

theorem no_tailH {n h : Nat} {listed : Array Bool} (hs : sinksB ops 0 n = true) (hc : chainHB ops n h = true) (hnh : n < h) (inv : HoleInv ops n h listed) (hh : listed.getD h true = true) (hn : n < ops.size) :
    ∀ (d i : Nat), n - i = d → i < n → listed.getD i true = false → ∀ t, n ≤ t → t ∉ Region.ready .any ops listed := by
  intro d
  induction d using Nat.strongRecOn with
  | _ d ih =>
    intro i hd hi hu t ht hr
    have hr' := mem_ready.1 hr
    obtain ⟨htu, o, ho, hall⟩ := hr'
    have hts : t < ops.size := (Array.getElem?_eq_some_iff.1 ho).1
    have hth : t ≠ h := fun e => by subst e; rw [hh] at htu; cases htu
    rcases Nat.lt_or_ge n t with hlt | hge
    · have hw := List.all_eq_true.1 hc t (List.mem_range.2 hts)
      simp only [Bool.or_eq_true, decide_eq_true_eq] at hw
      have hw := hw.resolve_left (by omega)
      obtain ⟨o', ho', e, he, hb, hon⟩ := Region.waitsFor_spec hw
      rw [ho] at ho'
      cases ho'
      have h2 := hall e he hb
      have hp : listed.getD (if t = h + 1 then t - 2 else t - 1) true = false := by
        split
        · exact inv.tail (t - 2) (by omega) (by omega) (by omega)
        · exact inv.tail (t - 1) (by omega) (by omega) (by omega)
      rw [hon, getD_both hp] at h2
      cases h2
    · have htn : t = n := by omega
      subst htn
      have hw := List.all_eq_true.1 hs i (List.mem_range.2 hi)
      simp only [Bool.or_eq_true, decide_eq_true_eq, List.any_eq_true, Bool.and_eq_true] at hw
      obtain ⟨j, hj, hij, hwj⟩ := hw.resolve_left (by omega)
      have hjn := List.mem_range.1 hj
      obtain ⟨o', ho', e, he, hb, hon⟩ := Region.waitsFor_spec hwj
      cases hl : listed.getD j false with
      | true =>
        have h2 := inv.closed j o' ho' hl e he hb
        rw [hon, getD_both hu] at h2
        cases h2
      | false =>
        by_cases hjt : j = t
        · subst hjt
          rw [ho] at ho'
          cases ho'
          have h2 := hall e he hb
          rw [hon, getD_both hu] at h2
          cases h2
        · exact ih (t - j) (by omega) j rfl (by omega) (getD_in (by rw [inv.size]; omega) hl) t (Nat.le_refl _) hr

theorem headQ_takeH {n h i : Nat} {oi : Oper} {v : Value} {L : Array Bool → Act → Prop} (hi : ops[i]? = some oi) (hsel : ∀ (j : Nat) (o : Oper) cs b, ops[j]? = some o → o.op ≠ .select cs b)
    (hs : sinksB ops 0 n = true) (hc : chainHB ops n h = true) (hnh : n < h) (hn : n < ops.size) (hin : i < n)
    (hdone : ∀ listed a, L listed a → ∀ j ∈ Region.ready .any ops listed, n ≤ j) :
    ∀ (f : Nat) (listed : Array Bool) (a : Act), HoleInv ops n h listed → listed.getD h true = true →
      (∀ j oj, ops[j]? = some oj → j ≠ i → listed.getD j true = false → (∀ e ∈ oj.after, Region.binds .any e = true → e.on ≠ i) → oi.apart ops oj = true) →
      i ∈ Region.ready .any ops listed → YieldsIn P ops C oi v a →
      headQ P ops C n L f (listed.setIfInBounds i true) (a.put oi.dst v) → headQ P ops C n L (f + 1) listed a := by
  intro f
  induction f with
  | zero =>
    intro listed a inv hh _ hr hy H
    refine ⟨fun h => (by rw [h] at hr; cases hr), fun j hj => ?_⟩
    have hjn : j < n := Nat.lt_of_not_le fun h => no_tailH hs hc hnh inv hh hn _ i rfl hin (mem_ready.1 hr).1 j h hj
    refine ⟨hjn, ?_⟩
    by_cases hji : j = i
    · subst hji; exact hy.qOp hi H
    · have := hdone _ _ H j (ready_mono hj hji)
      omega
  | succ f ih =>
    intro listed a inv hh hfree hr hy H
    have hun := (mem_ready.1 hr).1
    refine ⟨fun h => (by rw [h] at hr; cases hr), fun j hj => ?_⟩
    have hjn : j < n := Nat.lt_of_not_le fun h => no_tailH hs hc hnh inv hh hn _ i rfl hin hun j h hj
    refine ⟨hjn, ?_⟩
    by_cases hji : j = i
    · subst hji; exact hy.qOp hi H
    · obtain ⟨hju, oj, hoj, hall⟩ := mem_ready.1 hj
      have hno : ∀ e ∈ oj.after, Region.binds .any e = true → e.on ≠ i := fun e he hb hon => by
        have h2 := hall e he hb
        rw [hon, getD_both hun] at h2
        cases h2
      have h1 := qOp_put hoj (hfree j oj hoj hji hju hno) (fun cs b => hsel i oi cs b hi) (fun cs b => hsel j oj cs b hoj) hy (H.2 j (ready_mono hj hji)).2
      refine qOp_mono (fun a' h3 => ?_) h1
      refine ih (listed.setIfInBounds j true) a' (inv.set hj hjn) (by rw [getD_set_ne true (by omega)]; exact hh) (fun k ok hk hki hku hkn => hfree k ok hk hki ?_ hkn) (ready_mono hr (Ne.symm hji)) h3.1 ?_
      · by_cases hjk : j = k
        · subst hjk; exact hju
        · rw [getD_set_ne true hjk] at hku; exact hku
      · rw [Array.setIfInBounds_comm _ _ hji]; exact h3.2

def idxB (ops : Array Oper) : List Nat → Array Bool → Bool
  | [], listed => (Region.ready .any ops listed).isEmpty
  | i :: is, listed => decide (Region.ready .any ops listed = [i]) && idxB ops is (listed.setIfInBounds i true)

theorem wpAny_of_idx {Q : Exit → Act → World → Prop} : ∀ (is : List Nat) (l : List Oper) (listed : Array Bool) (a : Act) (w : World), is.map (fun i => ops[i]?) = l.map some → idxB ops is listed = true →
    wpList P ops Q l a w → wpAny P .any ops Q l.length listed a w
  | [], [], _, _, _, _, hB, h => ⟨by simpa [idxB] using hB, h⟩
  | [], _ :: _, _, _, _, hl, _, _ => by simp at hl
  | _ :: _, [], _, _, _, hl, _, _ => by simp at hl
  | i :: is, o :: l, listed, a, w, hl, hB, h => by
    simp only [List.map_cons, List.cons.injEq] at hl
    obtain ⟨h0, hl'⟩ := hl
    simp only [idxB, Bool.and_eq_true, decide_eq_true_eq] at hB
    refine ⟨fun h1 => (by rw [hB.1] at h1; cases h1), fun k hk => ?_⟩
    rw [hB.1] at hk
    have hik : k = i := by simpa using hk
    subst hik
    have hw : wpOp P ops Q k (wpList P ops Q l) a w := by unfold wpOp; simp only [h0]; exact h
    exact wpOp_mono (fun a' w' h' => wpAny_of_idx is l _ a' w' hl' hB.2 h') hw

def lexHole (ops : Array Oper) (is : List Nat) : Nat → Nat → Array Bool → Bool
  | 0, _, listed => idxB ops is listed
  | f + 1, k, listed => (Region.ready .any ops listed).contains k && Region.free .any ops listed k && lexHole ops is f (k + 1) (listed.setIfInBounds k true)

theorem headQ_lexH {n h : Nat} {is : List Nat} {Lq : Act → Prop} (hsel : Region.noSelect ops = true) (hs : sinksB ops 0 n = true) (hc : chainHB ops n h = true) (hnh : n < h) (hn : n < ops.size) (his : ∀ i ∈ is, n ≤ i) :
    ∀ (l : List Oper) (k : Nat) (listed : Array Bool) (a : Act), (∀ j, j < l.length → l[j]? = ops[k + j]?) → k + l.length = n → HoleInv ops n h listed → listed.getD h true = true →
    lexHole ops is l.length k listed = true → wpQuiet P ops C Lq l a →
    headQ P ops C n (fun listed' a' => idxB ops is listed' = true ∧ Lq a') l.length listed a := by
  intro l
  induction l with
  | nil =>
    intro k listed a _ hk _ _ hB h
    exact ⟨hB, h⟩
  | cons o l ih =>
    intro k listed a hl hk inv hh hB h
    have h0 : ops[k]? = some o := by have := hl 0 (by simp); simpa using this.symm
    simp only [List.length_cons, lexHole, Bool.and_eq_true] at hB
    obtain ⟨⟨hr, hf⟩, hB'⟩ := hB
    have hkn : k < n := by rw [← hk]; simp
    have hrk : k ∈ Region.ready .any ops listed := by simpa using hr
    obtain ⟨v, hy, hK⟩ := yieldsIn_of_qOp (P := P) (C := C) (K := wpQuiet P ops C Lq l) h0 (by unfold qOp; simp only [h0]; exact h)
    have hready : ∀ listed', idxB ops is listed' = true → ∀ j ∈ Region.ready .any ops listed', n ≤ j := by
      intro listed' hb j hj
      cases is with
      | nil => simp only [idxB, List.isEmpty_iff] at hb; rw [hb] at hj; cases hj
      | cons i is =>
        simp only [idxB, Bool.and_eq_true, decide_eq_true_eq] at hb
        rw [hb.1] at hj
        have : j = i := by simpa using hj
        subst this
        exact his j List.mem_cons_self
    refine headQ_takeH h0 (Region.noSelect_spec hsel) hs hc hnh hn hkn (fun listed' a' hL => hready listed' hL.1) l.length listed a inv hh (Region.free_spec h0 hf) hrk hy ?_
    exact ih (k + 1) _ _ (fun j hj => by have := hl (j + 1) (by simp; omega); simpa [Nat.add_assoc, Nat.add_comm 1 j] using this) (by simp only [List.length_cons] at hk; omega) (inv.set hrk hkn) (by rw [getD_set_ne true (by omega)]; exact hh) hB' hK

/-- what is asked of a region with a hole -/
def quietHoleB (ops : Array Oper) (n h : Nat) (is : List Nat) : Bool :=
  Region.noSelect ops && decide (n < h) && decide (h < ops.size) && sinksB ops 0 n && chainHB ops n h && is.all (fun i => decide (n ≤ i)) && (match ops[h]? with | some o => o.after.all (fun e => !Region.binds .any e) | none => false)
  && Region.free .any ops (Array.replicate ops.size false) h && (Region.ready .any ops (Array.replicate ops.size false)).contains h && lexHole ops is n 0 ((Array.replicate ops.size false).setIfInBounds h true)

theorem wp_quiet_hole {id : Nat} {Q : Exit → Act → World → Prop} {a : Act} {w : World} {l : List Oper} (n h : Nat) (is : List Nat) (hm : P.follows .mixedOrders = true) (hB : quietHoleB l.toArray n h is = true)
    (lt : List Oper) (hlt : lt = (l.drop n).eraseIdx (h - n)) (hl : is.map (fun i => l.toArray[i]?) = lt.map some) (oh : Oper) (hoh : l.toArray[h]? = some oh)
    (v : Value) (hy : Yields P l.toArray oh v a) (hQ : ∀ c a w, Q (.panic c) (a.put oh.dst v) w → Q (.panic c) a w)
    (H : wpQuiet P l.toArray (fun w' => ∃ p : Regrown, w' = Sort.grow (redrawn w p.d) p.os) (fun a' => ∀ w', (∃ p : Regrown, w' = Sort.grow (redrawn w p.d) p.os) → wpList P l.toArray Q lt a' w') (l.take n) (a.put oh.dst v)) : (Code.region id l.toArray true).wp P Q a w := by
  refine wp_region_any hm ?_
  simp only [quietHoleB, Bool.and_eq_true, decide_eq_true_eq, List.all_eq_true] at hB
  obtain ⟨⟨⟨⟨⟨⟨⟨⟨⟨hsel, hnh⟩, hhs⟩, hs⟩, hc⟩, his⟩, hea⟩, hf⟩, hr⟩, hlex⟩ := hB
  have hhs' : h < l.length := by simpa using hhs
  have hz : h ∈ Region.ready .any l.toArray (Array.replicate l.toArray.size false) := by simpa using hr
  have hea' : oh.after.all (fun e => !Region.binds .any e) = true := by rw [hoh] at hea; exact hea
  have inv : HoleInv l.toArray n h ((Array.replicate l.toArray.size false).setIfInBounds h true) := by
    refine ⟨by simp, fun j oj hj hlj e he hb => ?_, fun t ht ht' hth => by rw [getD_set_ne true (Ne.symm hth)]; exact getD_in (by simpa using ht') (getD_replicate_false _ _)⟩
    by_cases hij : h = j
    · subst hij
      have : oj = oh := Option.some.inj (hj.symm.trans hoh)
      subst this
      have h1 := Array.all_eq_true'.1 hea' e he
      rw [hb] at h1
      cases h1
    · rw [getD_set_ne false hij, getD_replicate_false] at hlj
      cases hlj
  have hh : ((Array.replicate l.toArray.size false).setIfInBounds h true).getD h true = true := by simp [hhs']
  have htl : (l.take n).length = n := by simp; omega
  have hll : lt.length = l.length - n - 1 := by rw [hlt, List.length_eraseIdx]; simp; omega
  have G := headQ_lexH (is := is) hsel hs hc hnh (by simp; omega) his (l.take n) 0 _ (a.put oh.dst v) (fun j hj => by
    have hj' : j < n := by rw [htl] at hj; omega
    simp [hj']) (by rw [htl]; omega) inv hh (by rw [htl]; exact hlex) H
  have G2 := wpAny_of_headQ (Q := Q) (g := lt.length) (fun listed' a' w' hw' hL => wpAny_of_idx is lt listed' a' w' hl hL.1 (hL.2 w' hw')) _ _ _ { w with drawn := w.drawn + 1 } ⟨⟨w.drawn + 1, #[]⟩, by rw [Sort.grow_empty]; rfl⟩ G
  have hsz : l.toArray.size = lt.length + (l.take n).length + 1 := by rw [htl, hll]; simp; omega
  rw [hsz]
  exact wpAny_take (i := h) (oi := oh) hoh hsel (by rw [hsz] at hf; exact hf) (by rw [hsz] at hr; exact hr) hQ hy (by rw [hsz] at G2; exact G2)
/-- a struct's load, quiet in a class in which its cells lie -/
theorem wpQuiet_load_list {ops : Array Oper} {C : World → Prop} {Q : Act → Prop} {rest : List Oper} {o : Oper} {a : Act} (hgd : o.guard = none) (ty : TypeId) (p : Operand) (ho : o.op = .load ty p)
    (ad : Addr) (hp : a.eval p = .pointer (some ad)) (l : List Value) (hc : ∀ w', C w' → ∀ j v, l[j]? = some v → w'.cell? (ad.add j) = some v) (d : TypeDesc)
    (hu : P.underlying ty = some d) (hd : (match d with | .struct _ | .array _ _ => true | _ => false) = true) (hi : (P.info? ty).map (·.size) = some l.length)
    (h : wpQuiet P ops C Q rest (a.put o.dst (.agg l.toArray))) : wpQuiet P ops C Q (o :: rest) a := by
  unfold wpQuiet
  have hw : Region.wanted o (yielded ops a.tmps) = true := by simp [Region.wanted, hgd]
  rw [if_pos hw]
  refine ⟨.agg l.toArray, fun w hC => ?_, h⟩
  have hl : (loadCells ad l.length).run P w = .ok l.toArray w := run_loadCells_list (P := P) w ad l (hc w hC)
  unfold Oper.quietAt execOp
  cases hq : P.info? ty with
  | none => simp [hq] at hi
  | some i =>
    have hsz : i.size = l.length := by simpa [hq] using hi
    have hagg : (isAgg ty).run P w = .ok true w := by
      unfold isAgg
      rw [Sem.run_bind, run_underlying hu w]
      cases d <;> simp_all
    have hrun : (loadVar ty ad).run P w = .ok (.agg l.toArray) w := by
      simp [loadVar, Sem.run_bind, hagg, sizeOf, typeInfo, hq, hsz, hl]
    simp only [ho, hp, Instr.loadAt, Instr.sureAddr, Sem.run_bind, Sem.run_pure, Result.andThen_ok, hrun]
    exact ⟨rfl, rfl⟩
end
theorem step_append_own {P : Program} {ops : Array Oper} {o : Oper} {a : Act} {w : World} {K : Act → World → Prop} {Q : Exit → Act → World → Prop} {E : Prop}
    (hg : o.guard = none) (s x : Operand) (t : TypeId) (hop : o.op = Op.call { callee := Callee.builtin Builtin.append, args := #[s, x], argTypes := #[t, t] })
    (base : Nat) (e : TypeId) (i : TypeInfo) (z : Value) (size bytes : Nat) (h1 : P.underlying t = some (.slice e)) (h2 : P.info? e = some i) (h3 : i.zero = some z) (h4 : i.size = size) (h5 : i.bytes = bytes) (h6 : z.cells.size = size) (h7 : 0 < size)
    (v : Value) (n : Nat) (xs : List Value) (hs : a.eval s = v) (hown : w.ownsRow base e size v n xs)
    (ad : Addr) (m c : Nat) (news : List Value) (hx : a.eval x = .slice (some ad) m c) (hn : news.length = m * size) (hc : ∀ j u, news[j]? = some u → w.cell? (ad.add j) = some u) (h1c : ∀ u ∈ news, u.oneCell' = true)
    (b1 : n + m ≤ maxLen) (b2 : (n + m) * bytes ≤ 140737488355328) (hbase : base ≤ w.heap.size)
    (hK : ∀ v' w', w'.ownsRow base e size v' (n + m) (xs ++ news) → w.grownBy w' v.ownBlock → K (a.put o.dst v') w') :
    if Region.wanted o (yielded ops a.tmps) = true then Oper.wp P o a w K Q else E := by
  have hw : Region.wanted o (yielded ops a.tmps) = true := by simp [Region.wanted, hg]
  rw [if_pos hw]
  obtain ⟨v', w', hrun, r1, r2, _⟩ := run_append_own (P := P) w base t o.type e i z size bytes h1 h2 h3 h4 h5 h6 h7 v n xs hown ad m c news hn hc h1c b1 b2 hbase
  unfold Oper.wp
  simp [execOp, hop, resolve, invoke, builtin, hs, hx, hrun, Result.andThen]
  exact hK v' w' r1 r2
end Go.Proofs.YtepalbldleegiaaGreatDoor.sh
