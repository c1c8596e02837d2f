/-
  Texts of the proof joined by a program: Qta Kda.
-/
import Derived.Lib.QuietBelow
import Derived.StillTail
import Derived.Test.YtendlmdmbkcdnaaGreatDoorJa
import Derived.Test.YtendlmdmbkcdnaaGreatDoorJh
set_option linter.unusedSimpArgs false
set_option linter.unusedVariables false
namespace Go.Proofs.YtendlmdmbkcdnaaGreatDoor.oc
open Go
open Go.RowKit
section
variable {P : Program} {ops : Array Oper} {C : World → Prop}
def sinksB (ops : Array Oper) (m n : Nat) : Bool :=
 (List.range n).all fun i => decide (i < m) || (List.range (n + 1)).any fun j => decide (i < j) && Region.waitsFor .any ops j i
theorem no_tail {m n : Nat} {listed : Array Bool} (hs : sinksB ops m n = true) (hc : Region.chainB .any ops n = true) (inv : HeadInv .any ops n listed) (hn : n < ops.size) :
   ∀ (d i : Nat), n - i = d → m ≤ i → i < n → listed.getD i true = false → ∀ t, n ≤ t → t ∉ Region.ready .any ops listed := by
 intro d
 induction d using Nat.strongRecOn with
 | _ d ih =>
   intro i hd hm hi hu t ht hr
   have hr' := mem_ready.1 hr
   obtain ⟨-, o, ho, hall⟩ := hr'
   have hts : t < ops.size := (Array.getElem?_eq_some_iff.1 ho).1
   rcases Nat.lt_or_ge n t with hlt | hge
   · have hw := List.all_eq_true.1 hc t (List.mem_range.2 hts)
     simp only [Bool.or_eq_true, decide_eq_true_eq] at hw
     obtain ⟨o', ho', e, he, hb, hon⟩ := Region.waitsFor_spec (hw.resolve_left (by omega))
     rw [ho] at ho'
     cases ho'
     have h2 := hall e he hb
     rw [hon, getD_both (inv.tail (t - 1) (by omega) (by omega))] at h2
     cases h2
   · have htn : t = n := by omega
     subst htn
     have hw := List.all_eq_true.1 hs i (List.mem_range.2 hi)
     simp only [Bool.or_eq_true, decide_eq_true_eq, List.any_eq_true, Bool.and_eq_true] at hw
     obtain ⟨j, hj, hij, hwj⟩ := hw.resolve_left (by omega)
     have hjn := List.mem_range.1 hj
     obtain ⟨o', ho', e, he, hb, hon⟩ := Region.waitsFor_spec hwj
     cases hl : listed.getD j false with
     | true =>
       have h2 := inv.closed j o' ho' hl e he hb
       rw [hon, getD_both hu] at h2
       cases h2
     | false =>
       by_cases hjt : j = t
       · subst hjt
         rw [ho] at ho'
         cases ho'
         have h2 := hall e he hb
         rw [hon, getD_both hu] at h2
         cases h2
       · exact ih (t - j) (by omega) j rfl (by omega) (by omega) (getD_in (by rw [inv.size]; omega) hl) t (Nat.le_refl _) hr
def headQ (P : Program) (ops : Array Oper) (C : World → Prop) (n : Nat) (L : Array Bool → Act → Prop) : Nat → Array Bool → Act → Prop
 | 0, listed, a => L listed a
 | f + 1, listed, a => Region.ready .any ops listed ≠ [] ∧ ∀ i ∈ Region.ready .any ops listed, i < n ∧ qOp P ops C i (headQ P ops C n L f (listed.setIfInBounds i true)) a
theorem wpAny_of_headQ {n g : Nat} {L : Array Bool → Act → Prop} {Q : Exit → Act → World → Prop} (hL : ∀ listed a w, C w → L listed a → wpAny P .any ops Q g listed a w) :
   ∀ (f : Nat) (listed : Array Bool) (a : Act) (w : World), C w → headQ P ops C n L f listed a → wpAny P .any ops Q (g + f) listed a w := by
 intro f
 induction f with
 | zero => intro listed a w hw h; exact hL _ _ _ hw h
 | succ f ih =>
   intro listed a w hw h
   exact ⟨fun h0 => absurd h0 h.1, fun i hi => wpOp_of_qOp hw (fun a' w' hw' h' => ih _ a' w' hw' h') (h.2 i hi).2⟩
theorem headQ_take {m n i : Nat} {oi : Oper} {v : Value} {L : Array Bool → Act → Prop} (hi : ops[i]? = some oi) (hsel : ∀ (j : Nat) (o : Oper) cs b, ops[j]? = some o → o.op ≠ .select cs b)
   (hs : sinksB ops m n = true) (hc : Region.chainB .any ops n = true) (hn : n < ops.size) (hmi : m ≤ i) (hin : i < n)
   (hdone : ∀ listed a, L listed a → ∀ j ∈ Region.ready .any ops listed, n ≤ j) :
   ∀ (f : Nat) (listed : Array Bool) (a : Act), HeadInv .any ops n listed →
     (∀ j oj, ops[j]? = some oj → j ≠ i → listed.getD j true = false → (∀ e ∈ oj.after, Region.binds .any e = true → e.on ≠ i) → oi.apart ops oj = true) →
     i ∈ Region.ready .any ops listed → YieldsIn P ops C oi v a →
     headQ P ops C n L f (listed.setIfInBounds i true) (a.put oi.dst v) → headQ P ops C n L (f + 1) listed a := by
 intro f
 induction f with
 | zero =>
   intro listed a inv _ hr hy H
   refine ⟨fun h => (by rw [h] at hr; cases hr), fun j hj => ?_⟩
   have hjn : j < n := Nat.lt_of_not_le fun h => no_tail hs hc inv hn _ i rfl hmi hin (mem_ready.1 hr).1 j h hj
   refine ⟨hjn, ?_⟩
   by_cases hji : j = i
   · subst hji; exact hy.qOp hi H
   · have := hdone _ _ H j (ready_mono hj hji)
     omega
 | succ f ih =>
   intro listed a inv hfree hr hy H
   have hun := (mem_ready.1 hr).1
   refine ⟨fun h => (by rw [h] at hr; cases hr), fun j hj => ?_⟩
   have hjn : j < n := Nat.lt_of_not_le fun h => no_tail hs hc inv hn _ i rfl hmi hin hun j h hj
   refine ⟨hjn, ?_⟩
   by_cases hji : j = i
   · subst hji; exact hy.qOp hi H
   · obtain ⟨hju, oj, hoj, hall⟩ := mem_ready.1 hj
     have hno : ∀ e ∈ oj.after, Region.binds .any e = true → e.on ≠ i := fun e he hb hon => by
       have h2 := hall e he hb
       rw [hon, getD_both hun] at h2
       cases h2
     have h1 := qOp_put hoj (hfree j oj hoj hji hju hno) (fun cs b => hsel i oi cs b hi) (fun cs b => hsel j oj cs b hoj) hy (H.2 j (ready_mono hj hji)).2
     refine qOp_mono (fun a' h3 => ?_) h1
     refine ih (listed.setIfInBounds j true) a' (inv.set hj hjn) (fun k ok hk hki hku hkn => hfree k ok hk hki ?_ hkn) (ready_mono hr (Ne.symm hji)) h3.1 ?_
     · by_cases hjk : j = k
       · subst hjk; exact hju
       · rw [getD_set_ne true hjk] at hku; exact hku
     · rw [Array.setIfInBounds_comm _ _ hji]; exact h3.2
theorem headQ_lex {m n g : Nat} {Lq : Act → Prop} (hsel : Region.noSelect ops = true) (hs : sinksB ops m n = true) (hc : Region.chainB .any ops n = true) (hn : n < ops.size) :
   ∀ (l : List Oper) (k : Nat) (listed : Array Bool) (a : Act), m ≤ k → (∀ j, j < l.length → l[j]? = ops[k + j]?) → k + l.length = n → HeadInv .any ops n listed →
   Region.lexHead .any ops g l.length k listed = true → wpQuiet P ops C Lq l a →
   headQ P ops C n (fun listed' a' => Region.seqB .any ops g n listed' = true ∧ Lq a') l.length listed a := by
 intro l
 induction l with
 | nil =>
   intro k listed a _ _ hk _ hB h
   simp only [List.length_nil, Nat.add_zero] at hk
   subst hk
   exact ⟨hB, h⟩
 | cons o l ih =>
   intro k listed a hmk hl hk inv hB h
   have h0 : ops[k]? = some o := by have := hl 0 (by simp); simpa using this.symm
   simp only [List.length_cons, Region.lexHead, Bool.and_eq_true] at hB
   obtain ⟨⟨hr, hf⟩, hB'⟩ := hB
   have hkn : k < n := by rw [← hk]; simp
   have hrk : k ∈ Region.ready .any ops listed := by simpa using hr
   obtain ⟨v, hy, hK⟩ := yieldsIn_of_qOp (P := P) (C := C) (K := wpQuiet P ops C Lq l) h0 (by unfold qOp; simp only [h0]; exact h)
   refine headQ_take h0 (Region.noSelect_spec hsel) hs hc hn hmk hkn (fun listed' a' hL => seqB_ready hL.1) l.length listed a inv (Region.free_spec h0 hf) hrk hy ?_
   exact ih (k + 1) _ _ (by omega) (fun j hj => by have := hl (j + 1) (by simp; omega); simpa [Nat.add_assoc, Nat.add_comm 1 j] using this) (by simp only [List.length_cons] at hk; omega) (inv.set hrk hkn) hB' hK
def quietTailB (ops : Array Oper) (m n : Nat) : Bool :=
 Region.noSelect ops && decide (m ≤ n) && decide (n < ops.size) && sinksB ops m n && Region.chainB .any ops n
theorem head_inv0 (n : Nat) : HeadInv .any ops n (Array.replicate ops.size false) :=
 ⟨by simp, fun j oj _ hl => (by rw [getD_replicate_false] at hl; cases hl), fun t _ ht => getD_in (by simpa using ht) (getD_replicate_false _ _)⟩
theorem wpAny_quiet_tail {m n : Nat} {Q : Exit → Act → World → Prop} {a : Act} {w : World} {l : List Oper} {listed : Array Bool} (hB : quietTailB l.toArray m n = true)
   (inv : HeadInv .any l.toArray n listed) (hlex : Region.lexHead .any l.toArray (l.length - n) (n - m) m listed = true) (hC : C w)
   (h : wpQuiet P l.toArray C (fun a' => ∀ w', C w' → wpList P l.toArray Q (l.drop n) a' w') ((l.take n).drop m) a) : wpAny P .any l.toArray Q (l.length - m) listed a w := by
 simp only [quietTailB, Bool.and_eq_true, decide_eq_true_eq] at hB
 obtain ⟨⟨⟨⟨hsel, hmn⟩, hn⟩, hs⟩, hc⟩ := hB
 have hn' : n < l.length := by simpa using hn
 have htl : ((l.take n).drop m).length = n - m := by simp; omega
 have hdl : (l.drop n).length = l.length - n := by simp
 have H := headQ_lex (g := l.length - n) hsel hs hc hn ((l.take n).drop m) m listed a (Nat.le_refl _) (fun j hj => by
   have hj' : m + j < n := by rw [htl] at hj; omega
   simp [hj']) (by rw [htl]; omega) inv (by rw [htl]; exact hlex) h
 have H2 := wpAny_of_headQ (Q := Q) (g := l.length - n) (fun listed' a' w' hw' hL => by
   have := wpAny_of_seq (md := .any) (Q' := Q) (l.drop n) n listed' a' w' (fun j => by simp [List.getElem?_drop]) (by rw [hdl]; exact hL.1) (hL.2 w' hw')
   rwa [hdl] at this) _ _ _ _ hC H
 rw [htl, show l.length - n + (n - m) = l.length - m by omega] at H2
 exact H2
theorem wp_quiet_tail {id : Nat} {Q : Exit → Act → World → Prop} {a : Act} {w : World} {l : List Oper} (n : Nat) (hm : P.follows .mixedOrders = true) (hB : quietTailB l.toArray 0 n = true)
   (hlex : Region.lexHead .any l.toArray (l.length - n) n 0 (Array.replicate l.toArray.size false) = true)
   (h : wpQuiet P l.toArray (fun w' => ∃ p : Regrown, w' = Sort.grow (redrawn w p.d) p.os) (fun a' => ∀ w', (∃ p : Regrown, w' = Sort.grow (redrawn w p.d) p.os) → wpList P l.toArray Q (l.drop n) a' w') (l.take n) a) : (Code.region id l.toArray true).wp P Q a w := by
 refine wp_region_any hm ?_
 have := wpAny_quiet_tail (Q := Q) hB (head_inv0 n) (by simpa using hlex) (C := fun w' => ∃ p : Regrown, w' = Sort.grow (redrawn w p.d) p.os) (w := { w with drawn := w.drawn + 1 }) ⟨⟨w.drawn + 1, #[]⟩, by rw [Sort.grow_empty]; rfl⟩ h
 simpa using this
theorem wp_quiet_tail1 {id : Nat} {Q : Exit → Act → World → Prop} {a : Act} {w : World} {o : Oper} {l : List Oper} (n : Nat) (hm : P.follows .mixedOrders = true) (hB : quietTailB (o :: l).toArray 1 n = true)
   (hf : Region.free .any (o :: l).toArray (Array.replicate (o :: l).toArray.size false) 0 = true)
   (hr : (Region.ready .any (o :: l).toArray (Array.replicate (o :: l).toArray.size false)).contains 0 = true)
   (hlex : Region.lexHead .any (o :: l).toArray ((o :: l).length - n) (n - 1) 1 ((Array.replicate (o :: l).toArray.size false).setIfInBounds 0 true) = true)
   (v : Value) (hy : Yields P (o :: l).toArray o v a) (hQ : ∀ c a w, Q (.panic c) (a.put o.dst v) w → Q (.panic c) a w)
   (h : wpQuiet P (o :: l).toArray (fun w' => ∃ p : Regrown, w' = Sort.grow (redrawn w p.d) p.os) (fun a' => ∀ w', (∃ p : Regrown, w' = Sort.grow (redrawn w p.d) p.os) → wpList P (o :: l).toArray Q ((o :: l).drop n) a' w') (((o :: l).take n).drop 1) (a.put o.dst v)) : (Code.region id (o :: l).toArray true).wp P Q a w := by
 refine wp_region_any hm ?_
 have hB' := hB
 simp only [quietTailB, Bool.and_eq_true, decide_eq_true_eq] at hB'
 have hn : 0 < n := hB'.1.1.1.2
 have hz : 0 ∈ Region.ready .any (o :: l).toArray (Array.replicate (o :: l).toArray.size false) := by simpa using hr
 have H := wpAny_quiet_tail (Q := Q) hB ((head_inv0 n).set hz hn) hlex (C := fun w' => ∃ p : Regrown, w' = Sort.grow (redrawn w p.d) p.os) (w := { w with drawn := w.drawn + 1 }) ⟨⟨w.drawn + 1, #[]⟩, by rw [Sort.grow_empty]; rfl⟩ h
 exact wpAny_take (i := 0) (oi := o) (by simp) hB'.1.1.1.1 hf hr hQ hy H
theorem wpQuiet_load_list {ops : Array Oper} {C : World → Prop} {Q : Act → Prop} {rest : List Oper} {o : Oper} {a : Act} (hgd : o.guard = none) (ty : TypeId) (p : Operand) (ho : o.op = .load ty p)
   (ad : Addr) (hp : a.eval p = .pointer (some ad)) (l : List Value) (hc : ∀ w', C w' → ∀ j v, l[j]? = some v → w'.cell? (ad.add j) = some v) (d : TypeDesc)
   (hu : P.underlying ty = some d) (hd : (match d with | .struct _ | .array _ _ => true | _ => false) = true) (hi : (P.info? ty).map (·.size) = some l.length)
   (h : wpQuiet P ops C Q rest (a.put o.dst (.agg l.toArray))) : wpQuiet P ops C Q (o :: rest) a := by
 unfold wpQuiet
 have hw : Region.wanted o (yielded ops a.tmps) = true := by simp [Region.wanted, hgd]
 rw [if_pos hw]
 refine ⟨.agg l.toArray, fun w hC => ?_, h⟩
 have hl : (loadCells ad l.length).run P w = .ok l.toArray w := run_loadCells_list (P := P) w ad l (hc w hC)
 unfold Oper.quietAt execOp
 cases hq : P.info? ty with
 | none => simp [hq] at hi
 | some i =>
   have hsz : i.size = l.length := by simpa [hq] using hi
   have hagg : (isAgg ty).run P w = .ok true w := by
     unfold isAgg
     rw [Sem.run_bind, run_underlying hu w]
     cases d <;> simp_all
   have hrun : (loadVar ty ad).run P w = .ok (.agg l.toArray) w := by
     simp [loadVar, Sem.run_bind, hagg, sizeOf, typeInfo, hq, hsz, hl]
   simp only [ho, hp, Instr.loadAt, Instr.sureAddr, Sem.run_bind, Sem.run_pure, Result.andThen_ok, hrun]
   exact ⟨rfl, rfl⟩
end
section
variable {P : Program} {w0 : World}
theorem regrown_cells {g : Nat} {t : TypeId} {cs : Array Value} (h : Blk w0 g t cs) (o : Nat) (l : List Value) (hl : ∀ j v, l[j]? = some v → cs[o + j]? = some v) : ∀ w' : World, (∃ p : Regrown, w' = Sort.grow (redrawn w0 p.d) p.os) → ∀ j v, l[j]? = some v → w'.cell? (Addr.add ⟨g, o, none⟩ j) = some v := by
 rintro w' ⟨p, rfl⟩ j v hj
 rw [add_flat, ((h.below (below_regrown w0 p.d p.os) h.lt).cell (o + j))]
 exact hl j v hj
abbrev QC (P : Program) (w0 : World) (f : FuncId) (args : Array Value) (v : Value) : Prop := ∀ (d : Nat) (os : Array Obj), Calls P f args (Sort.grow (redrawn w0 d) os) fun e w'' => e = .returned v ∧ ∃ p : Regrown, w'' = Sort.grow (redrawn w0 p.d) p.os
theorem same_regrown {f : FuncId} {args : Array Value} {v : Value} (h : ∀ W, Below w0.heap.size w0 W → Calls P f args W fun e w' => e = .returned v ∧ w' = W) : QC P w0 f args v := fun d os =>
 (h _ (below_regrown w0 d os)).mono fun e w'' x => ⟨x.1, ⟨⟨d, os⟩, x.2⟩⟩
theorem below_qc {f : FuncId} {args : Array Value} {v : Value} (h : ∀ W, Below w0.heap.size w0 W → Calls P f args W fun e w' => e = .returned v ∧ Below W.heap.size W w') : QC P w0 f args v := fun d os =>
 Calls.regrown_of (h _ (below_regrown w0 d os))
end
end Go.Proofs.YtendlmdmbkcdnaaGreatDoor.oc
namespace Go.Proofs.YtendlmdmbkcdnaaGreatDoor.kd
open Go.RowKit oc
set_option maxRecDepth 100000
structure KE where
 seg : Int
 pos : Int
 size : Int
 off : Int
 time : Int
 tomb : Bool
def KE.cells (e : KE) : Array Value := #[.int .i64 e.seg, .int .i64 e.pos, .int .i64 e.size, .int .i64 e.off, .int .i64 e.time, .bool e.tomb]
def KE.zero : KE := ⟨0, 0, 0, 0, 0, false⟩
inductive KT where
 | nil
 | node (k : ByteArray) (e : KE) (l r : KT)
def KT.count : KT → Nat
 | .nil => 0
 | .node _ _ l r => l.count + r.count + 1
def KT.short : KT → Prop
 | .nil => True
 | .node k _ l r => k.size ≤ 64 ∧ l.short ∧ r.short
def pa : Option Nat → Option Addr
 | none => none
 | some g => some ⟨g, 0, none⟩
def pv (p : Option Nat) : Value := .pointer (pa p)
def nodeC (k : ByteArray) (e : KE) (n : Nat) (pl pr : Option Nat) : Array Value := #[.string k, .int .i64 e.seg, .int .i64 e.pos, .int .i64 e.size, .int .i64 e.off, .int .i64 e.time, .bool e.tomb, .int .i64 (n : Int), pv pl, pv pr]
def TreeAt (w : World) (F : Nat → Prop) : KT → Option Nat → Prop
 | .nil, p => p = none
 | .node k e l r, p => ∃ g pl pr, p = some g ∧ F g ∧ Blk w g 202 (nodeC k e (l.count + r.count + 1) pl pr) ∧ TreeAt w F l pl ∧ TreeAt w F r pr
theorem TreeAt.keep {w w' : World} {F F' : Nat → Prop} (hk : ∀ i, i < w.heap.size → F i → F' i ∧ w'.heap[i]? = w.heap[i]?) : ∀ {t : KT} {p : Option Nat}, TreeAt w F t p → TreeAt w' F' t p
 | .nil, _, h => h
 | .node _ _ _ _, _, ⟨g, pl, pr, e, hF, hB, hl, hr⟩ => ⟨g, pl, pr, e, (hk g hB.lt hF).1, (hk g hB.lt hF).2.trans hB, TreeAt.keep hk hl, TreeAt.keep hk hr⟩
theorem TreeAt.below {w w' : World} {F : Nat → Prop} {t : KT} {p : Option Nat} (h : TreeAt w F t p) (hb : Below w.heap.size w w') : TreeAt w' F t p :=
 h.keep fun i hi hF => ⟨hF, hb.block i hi⟩
def Stp (p : Prop) : Prop := p
theorem count_any (w : World) (F : Nat → Prop) (t : KT) (p : Option Nat) (h : TreeAt w F t p) : Calls Tryz.prog 273 #[pv p] w fun e w' => e = .returned (.int .i64 (t.count : Int)) ∧ w' = w := by
 cases t with
 | nil =>
   obtain rfl : p = none := h
   simp only [pv, pa]
   go_enter Tryz.func273, Tryz.ntmps273
   go_wp2_with fail
   go_ret
   exact ⟨rfl, rfl⟩
 | node k e l r =>
   obtain ⟨g, pl, pr, rfl, hF, hB, hl, hr⟩ := h
   have c7 : w.cell? ⟨g, 7, none⟩ = some (.int .i64 ((l.count + r.count + 1 : Nat) : Int)) := (hB.cell 7).trans rfl
   clear hB hl hr hF
   simp only [pv, pa]
   go_enter Tryz.func273, Tryz.ntmps273
   go_wp2_with fail
   go_ret
   exact ⟨rfl, rfl⟩
theorem heavy_any (w : World) (F : Nat → Prop) (a b : KT) (pa pb : Option Nat) (ha : TreeAt w F a pa) (hb : TreeAt w F b pb) (na : a.count ≤ 1099511627776) (nb : b.count ≤ 1099511627776) :
   Calls Tryz.prog 274 #[pv pa, pv pb] w fun e w' => e = .returned (.bool (decide (3 * ((b.count : Int) + 1) < (a.count : Int) + 1))) ∧ w' = w := by
 have n1 := count_any w F a pa ha
 have n2 := count_any w F b pb hb
 have e1 : IntKind.i64.wrap ((a.count : Int) + 1) = (a.count : Int) + 1 := by rw [IntKind.wrap_i64]; omega
 have e2 : IntKind.i64.wrap ((b.count : Int) + 1) = (b.count : Int) + 1 := by rw [IntKind.wrap_i64]; omega
 have e3 : IntKind.i64.wrap (3 * ((b.count : Int) + 1)) = 3 * ((b.count : Int) + 1) := by rw [IntKind.wrap_i64]; omega
 generalize (a.count : Int) = x at *
 generalize (b.count : Int) = y at *
 clear ha hb na nb
 generalize hvl : pv pa = vl at n1 ⊢
 generalize hvr : pv pb = vr at n2 ⊢
 go_enter Tryz.func274, Tryz.ntmps274
 go_wp2_with (first
   | (go_at_call 273; (first | with_reducible refine n1.mono ?_ | with_reducible refine n2.mono ?_); rintro e w1 ⟨rfl, rfl⟩)
   | fail)
 all_goals
   go_ret
   simp_all
theorem inner_any (w : World) (F : Nat → Prop) (a b : KT) (pa pb : Option Nat) (ha : TreeAt w F a pa) (hb : TreeAt w F b pb) (na : a.count ≤ 1099511627776) (nb : b.count ≤ 1099511627776) :
   Calls Tryz.prog 275 #[pv pa, pv pb] w fun e w' => e = .returned (.bool (decide (2 * ((b.count : Int) + 1) ≤ (a.count : Int) + 1))) ∧ w' = w := by
 have n1 := count_any w F a pa ha
 have n2 := count_any w F b pb hb
 have e1 : IntKind.i64.wrap ((a.count : Int) + 1) = (a.count : Int) + 1 := by rw [IntKind.wrap_i64]; omega
 have e2 : IntKind.i64.wrap ((b.count : Int) + 1) = (b.count : Int) + 1 := by rw [IntKind.wrap_i64]; omega
 have e3 : IntKind.i64.wrap (2 * ((b.count : Int) + 1)) = 2 * ((b.count : Int) + 1) := by rw [IntKind.wrap_i64]; omega
 generalize (a.count : Int) = x at *
 generalize (b.count : Int) = y at *
 clear ha hb na nb
 generalize hvl : pv pa = vl at n1 ⊢
 generalize hvr : pv pb = vr at n2 ⊢
 go_enter Tryz.func275, Tryz.ntmps275
 go_wp2_with (first
   | (go_at_call 273; (first | with_reducible refine n1.mono ?_ | with_reducible refine n2.mono ?_); rintro e w1 ⟨rfl, rfl⟩)
   | fail)
 all_goals
   go_ret
   simp_all
set_option maxHeartbeats 2000000 in
theorem join_any (w : World) (F : Nat → Prop) (hF : ∀ i, w.heap.size ≤ i → F i) (k : ByteArray) (e : KE) (l r : KT) (pl pr : Option Nat) (hl : TreeAt w F l pl) (hr : TreeAt w F r pr) (hn : l.count + r.count + 1 ≤ 1099511627776) :
   Calls Tryz.prog 231 #[.string k, .agg e.cells, pv pl, pv pr] w fun x w' => ∃ g, x = .returned (pv (some g)) ∧ TreeAt w' F (.node k e l r) (some g) ∧ Below w.heap.size w w' := by
 obtain ⟨ce, hce⟩ : ∃ c, KE.cells e = c := ⟨_, rfl⟩
 have e1 : IntKind.i64.wrap ((l.count : Int) + r.count) = (l.count : Int) + r.count := by rw [IntKind.wrap_i64]; omega
 have e2 : IntKind.i64.wrap ((l.count : Int) + r.count + 1) = (l.count : Int) + r.count + 1 := by rw [IntKind.wrap_i64]; omega
 have HL := Lib.hid hl
 have HR := Lib.hid hr
 have HF := Lib.hid hF
 clear hl hr hF hn
 obtain ⟨a1, a2, a3, a4, a5, a6⟩ := e
 simp only [KE.cells] at hce ⊢
 subst hce
 obtain ⟨vl, hvl⟩ : ∃ x, pa pl = x := ⟨_, rfl⟩
 obtain ⟨vr, hvr⟩ : ∃ x, pa pr = x := ⟨_, rfl⟩
 have hl2 : pv pl = .pointer vl := by rw [pv, hvl]
 have hr2 : pv pr = .pointer vr := by rw [pv, hvr]
 rw [hl2, hr2]
 go_enter Tryz.func231, Tryz.ntmps231
 go_wp2_with fail
 obtain ⟨w0, hw0⟩ : ∃ x, w.alloc (.cells #[.int .i64 a1, .int .i64 a2, .int .i64 a3, .int .i64 a4, .int .i64 a5, .bool a6] 117) = x := ⟨_, rfl⟩
 have HB0 : Hid (Below w.heap.size w w0) := by rw [← hw0]; exact Lib.hid ((Below.refl _ _).alloc (Nat.le_refl _) _)
 have HK0 : Hid (Blk w0 w.heap.size 117 #[.int .i64 a1, .int .i64 a2, .int .i64 a3, .int .i64 a4, .int .i64 a5, .bool a6]) := by rw [← hw0]; exact Lib.hid (Blk.new w _ _)
 have q1 : QC Tryz.prog w0 273 #[.pointer vl] (.int .i64 (l.count : Int)) := same_regrown (fun W hb => hl2 ▸ count_any W F l pl (HL.out.below (HB0.out.trans (hb.mono HB0.out.size))))
 have q2 : QC Tryz.prog w0 273 #[.pointer vr] (.int .i64 (r.count : Int)) := same_regrown (fun W hb => hr2 ▸ count_any W F r pr (HR.out.below (HB0.out.trans (hb.mono HB0.out.size))))
 have kE := regrown_cells HK0.out 0 [.int .i64 a1, .int .i64 a2, .int .i64 a3, .int .i64 a4, .int .i64 a5, .bool a6] (fun j v h => by simpa using h)
 simp only [hw0]
 refine wp_quiet_tail 10 (by kernel_rfl) (by kernel_rfl) (by kernel_rfl) ?_
 simp only [List.take, List.drop]
 repeat (first | go_big_quiet_skip | (with_reducible refine wpQuiet_load_list (o := ⟨some 10, .load 117 (.tmp 5), _, _, _, _⟩) rfl 117 (.tmp 5) rfl ⟨w.heap.size, 0, none⟩ rfl [.int .i64 a1, .int .i64 a2, .int .i64 a3, .int .i64 a4, .int .i64 a5, .bool a6] kE _ Tryz.underlying117 rfl (by kernel_rfl) ?_; simp only [Act.put, List.setIfInBounds_toArray, List.set_cons_succ, List.set_cons_zero]) | (go_big_quiet_want; go_big_quiet_op; first | go_big_quiet_on | (apply Exists.intro; refine ⟨fun _ => ?_, ?_⟩; · (first | with_reducible exact q1 _ _ | with_reducible exact q2 _ _)); go_big_quiet_on))
 refine wpQuiet_nil ?_
 intro wq hw'
 obtain ⟨⟨dq, osq⟩, hw''⟩ := hw'
 have hbq : Below w0.heap.size w0 wq := by rw [hw'']; exact below_regrown w0 dq osq
 have HBq : Hid (Below w.heap.size w wq) := HB0.out.trans (hbq.mono HB0.out.size)
 clear hw'' hbq q1 q2 kE HK0 hw0
 go_wp2_with fail
 go_ret
 refine ⟨wq.heap.size, rfl, ⟨wq.heap.size, pl, pr, rfl, HF.out _ HBq.out.size, ?_, (HL.out.below HBq.out).below ((Below.refl _ _).alloc (Nat.le_refl _) _), (HR.out.below HBq.out).below ((Below.refl _ _).alloc (Nat.le_refl _) _)⟩, HBq.out.alloc HBq.out.size _⟩
 have := Blk.new wq 202 (nodeC k ⟨a1, a2, a3, a4, a5, a6⟩ (l.count + r.count + 1) pl pr)
 simpa [nodeC, hl2, hr2] using this
end Go.Proofs.YtendlmdmbkcdnaaGreatDoor.kd
