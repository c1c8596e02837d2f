/-
  What lies in memory while the law ShellShows works: the response's box, its copy's, two lists of the law's own.
  Conditions: none beyond the hypotheses.
-/
import Derived.Test.YtepalbldleegiaaDoorSwm
import Derived.Test.YtepalbldleegiaaDoorSwn
import Derived.Test.YtepalbldleegiaaDoorSqh
namespace Go.Proofs.YtepalbldleegiaaDoor.sh
open Go.RowKit
open Go.Lib (itoa decDigits byteCells)

theorem infoRec : (Tryd.prog.info? 29).map (fun i => (i.zero, i.size, i.bytes)) = some (some (.agg #[.int .i64 0, .int .i64 0, .int .i64 0, .int .i64 0, .int .i64 0, .string ⟨#[]⟩, .string ⟨#[]⟩]), 7, 72) := by kernel_rfl
def flat (l : List Rec) : List Value := l.flatMap recL
theorem flat_len (l : List Rec) : (flat l).length = l.length * 7 := by
  induction l with
  | nil => rfl
  | cons x l ih => simp only [flat, List.flatMap_cons, List.length_append, List.length_cons] at ih ⊢; rw [ih]; simp only [recL, List.length_cons, List.length_nil]; omega
theorem flat_append (a b : List Rec) : flat (a ++ b) = flat a ++ flat b := by simp [flat]
theorem flat_at (l : List Rec) : ∀ (i : Nat) (r : Rec), l[i]? = some r → ∀ j v, (recL r)[j]? = some v → (flat l)[i * 7 + j]? = some v := by
  induction l with
  | nil => intro i r h; simp at h
  | cons x l ih =>
    intro i r h j v hv
    have hj : j < 7 := (List.getElem?_eq_some_iff.1 hv).1
    cases i with
    | zero =>
      simp only [List.getElem?_cons_zero, Option.some.injEq] at h
      subst h
      rw [Nat.zero_mul, Nat.zero_add, flat, List.flatMap_cons, List.getElem?_append_left (by exact hj)]
      exact hv
    | succ i =>
      simp only [List.getElem?_cons_succ] at h
      rw [flat, List.flatMap_cons, List.getElem?_append_right (by simp only [recL, List.length_cons, List.length_nil]; omega)]
      have e : (i + 1) * 7 + j - (recL x).length = i * 7 + j := by simp only [recL, List.length_cons, List.length_nil]; omega
      rw [e]
      exact ih i r h j v hv

theorem own_ne {w : World} {B B' : Nat} {e e' : TypeId} {s s' : Nat} {v v' : Value} {n n' : Nat} {xs xs' : List Value} (h : w.ownsRow B e s v n xs) (h' : w.ownsRow B' e' s' v' n' xs') (hne : e ≠ e') :
    v.ownBlock = none ∨ v.ownBlock ≠ v'.ownBlock := by
  rcases h.2 with ⟨rfl, -⟩ | ⟨g, cap, cur, rfl, -, hg, -⟩
  · exact Or.inl rfl
  · refine Or.inr fun e0 => ?_
    rcases h'.2 with ⟨rfl, -⟩ | ⟨g', cap', cur', rfl, -, hg', -⟩
    · cases e0
    · simp only [Value.ownBlock, Option.some.injEq] at e0
      subst e0
      rw [hg] at hg'
      injection hg' with hg'
      injection hg' with h1 h2
      exact hne h2

def boxC (r : Rsp Rec) (cR cN : Value) : Array Value := #[.int .u32 r.id, .int .i64 r.op, .int .i64 r.code, .int .i64 r.off, .int .i64 r.num, .bool r.more, cR, cN]

/-- while the copy's lists are made -/
structure Ph1 (r : Rsp Rec) (A : Option Addr) (c : Nat) (D : Option Addr) (d : Nat) (w wr : World) (h : Nat) (cR cN vN : Value) (xs : List Bs) (vR : Value) (ys : List Rec) : Prop where
  low : Below w.heap.size w wr
  hlt : w.heap.size < h
  box : Blk wr w.heap.size 26 (boxC r (.slice A r.recs.length c) (.slice D r.names.length d))
  cpy : Blk wr h 26 (boxC r cR cN)
  names : wr.ownsRow (h + 1) 9 1 vN xs.length (strV xs)
  recs : wr.ownsRow (h + 1) 29 7 vR ys.length (flat ys)

section
variable {r : Rsp Rec} {A : Option Addr} {c : Nat} {D : Option Addr} {d : Nat} {w wr w' : World} {h : Nat} {cR cN vN : Value} {xs : List Bs} {vR : Value} {ys : List Rec}

theorem Ph1.below (p : Ph1 r A c D d w wr h cR cN vN xs vR ys) (hb : Below wr.heap.size wr w') : Ph1 r A c D d w w' h cR cN vN xs vR ys :=
  ⟨p.low.trans (hb.mono p.low.size), p.hlt, p.box.below hb p.box.lt, p.cpy.below hb p.cpy.lt, p.names.kept (grown_of_below hb) (by cases hv : vN.ownBlock <;> simp), p.recs.kept (grown_of_below hb) (by cases hv : vR.ownBlock <;> simp)⟩
theorem Ph1.addN (p : Ph1 r A c D d w wr h cR cN vN xs vR ys) {v' : Value} {x : Bs} (ho : w'.ownsRow (h + 1) 9 1 v' (xs.length + 1) (strV xs ++ strV [x])) (hg : wr.grownBy w' vN.ownBlock) : Ph1 r A c D d w w' h cR cN v' (xs ++ [x]) vR ys := by
  have hlt := p.hlt
  have hk : ∀ k, vN.ownBlock = some k → h + 1 ≤ k := fun k hk => (p.names.lt k hk).1
  refine ⟨p.low.grown hg p.low.size (fun k h1 => by have := hk k h1; omega), p.hlt, p.box.grown hg (fun e => by have := hk _ e.symm; omega), p.cpy.grown hg (fun e => by have := hk _ e.symm; omega), ?_, p.recs.kept hg (own_ne p.recs p.names (by decide))⟩
  rw [List.length_append, strV_append]
  exact ho
theorem Ph1.addR (p : Ph1 r A c D d w wr h cR cN vN xs vR ys) {v' : Value} {y : Rec} (ho : w'.ownsRow (h + 1) 29 7 v' (ys.length + 1) (flat ys ++ recL y)) (hg : wr.grownBy w' vR.ownBlock) : Ph1 r A c D d w w' h cR cN vN xs v' (ys ++ [y]) := by
  have hlt := p.hlt
  have hk : ∀ k, vR.ownBlock = some k → h + 1 ≤ k := fun k hk => (p.recs.lt k hk).1
  refine ⟨p.low.grown hg p.low.size (fun k h1 => by have := hk k h1; omega), p.hlt, p.box.grown hg (fun e => by have := hk _ e.symm; omega), p.cpy.grown hg (fun e => by have := hk _ e.symm; omega), p.names.kept hg (own_ne p.names p.recs (by decide)), ?_⟩
  rw [List.length_append, flat_append]
  simpa [flat] using ho
theorem Ph1.setC (p : Ph1 r A c D d w wr h cR cN vN xs vR ys) {cR' cN' : Value} (hb : Blk w' h 26 (boxC r cR' cN')) (hg : wr.grownBy w' (some h)) : Ph1 r A c D d w w' h cR' cN' vN xs vR ys := by
  have hlt := p.hlt
  refine ⟨below_gb p.low hg p.low.size (by omega), p.hlt, p.box.gb hg (by omega), hb, p.names.kept hg (Or.inr fun e => by have := (p.names.lt _ e).1; omega), p.recs.kept hg (Or.inr fun e => by have := (p.recs.lt _ e).1; omega)⟩
end
theorem gb_set (w : World) (g i : Nat) (v : Value) : w.grownBy (w.setCell ⟨g, i, none⟩ v) (some g) := ⟨rfl, rfl, rfl, by simp [World.setCell], fun k _ hne => Below.heap_setCell w ⟨g, i, none⟩ v k (fun e => hne (by rw [e]))⟩
theorem setC7 (r : Rsp Rec) (cR cN v : Value) : (boxC r cR cN).setIfInBounds 7 v = boxC r cR v := by simp [boxC]
theorem setC6 (r : Rsp Rec) (cR cN v : Value) : (boxC r cR cN).setIfInBounds 6 v = boxC r v cN := by simp [boxC]
theorem Ph1.put7 {r : Rsp Rec} {A : Option Addr} {c : Nat} {D : Option Addr} {d : Nat} {w wr : World} {h : Nat} {cR cN vN : Value} {xs : List Bs} {vR : Value} {ys : List Rec} (p : Ph1 r A c D d w wr h cR cN vN xs vR ys) (v : Value) : Ph1 r A c D d w (wr.setCell ⟨h, 7, none⟩ v) h cR v vN xs vR ys :=
  p.setC (by rw [← setC7 r cR cN]; exact p.cpy.set_ 7 v) (gb_set wr h 7 v)
theorem own_slice {w : World} {B : Nat} {e : TypeId} {s : Nat} {v : Value} {n : Nat} {xs : List Value} (h : w.ownsRow B e s v n xs) : ∃ X cc, v = .slice X n cc := by
  rcases h.2 with ⟨rfl, rfl⟩ | ⟨g, cap, cur, rfl, -⟩
  · exact ⟨none, 0, rfl⟩
  · exact ⟨some ⟨g, 0, none⟩, cap, rfl⟩
theorem putN (r : Rsp Rec) (cR cN v : Value) : putFrom (boxC r cR cN) 7 [v] = boxC r cR v := by simp [putFrom, boxC]
theorem putR (r : Rsp Rec) (cR cN v : Value) : putFrom (boxC r cR cN) 6 [v] = boxC r v cN := by simp [putFrom, boxC]

/-- what a block's cells begin with -/
def HasN (cs : Array Value) (l : List Bs) : Prop := ∀ (k : Nat) (x : Bs), l[k]? = some x → cs[k]? = some (.string (S x))
def HasR (cs : Array Value) (l : List Rec) : Prop := ∀ (k : Nat) (x : Rec), l[k]? = some x → ∀ (j : Nat) (v : Value), (recL x)[j]? = some v → cs[k * 7 + j]? = some v
theorem HasN.lt {cs : Array Value} {l : List Bs} (h : HasN cs l) {k : Nat} (hk : k < l.length) : k < cs.size := by
  have := h k l[k] (List.getElem?_eq_getElem hk)
  exact (Array.getElem?_eq_some_iff.1 this).1
theorem HasN.put {cs : Array Value} {l : List Bs} (h : HasN cs l) {k : Nat} (hk : k < l.length) (x : Bs) : HasN (putFrom cs k [.string (S x)]) (l.set k x) := by
  intro i y hy
  by_cases hik : i = k
  · subst hik
    have hlt := h.lt hk
    rw [List.getElem?_set_self hk] at hy
    injection hy with hy
    subst hy
    have := putFrom_in [Value.string (S x)] cs i 0 (by simp) (by simp only [List.length_cons, List.length_nil]; omega)
    simpa using this
  · rw [List.getElem?_set_ne (Ne.symm hik)] at hy
    rw [putFrom_out _ _ _ _ (by simp only [List.length_cons, List.length_nil]; omega)]
    exact h i y hy
theorem HasR.lt {cs : Array Value} {l : List Rec} (h : HasR cs l) {k : Nat} (hk : k < l.length) : k * 7 + 7 ≤ cs.size := by
  have := h k l[k] (List.getElem?_eq_getElem hk) 6 _ rfl
  have := (Array.getElem?_eq_some_iff.1 this).1
  omega
theorem HasR.put {cs : Array Value} {l : List Rec} (h : HasR cs l) {k : Nat} (hk : k < l.length) (x : Rec) : HasR (putFrom cs (k * 7) (recL x)) (l.set k x) := by
  intro i y hy j v hv
  have hj : j < 7 := (List.getElem?_eq_some_iff.1 hv).1
  have hl7 : (recL x).length = 7 := rfl
  by_cases hik : i = k
  · subst hik
    have hlt := h.lt hk
    rw [List.getElem?_set_self hk] at hy
    have hxy : x = y := Option.some.inj hy
    rw [← hxy] at hv
    have h0 := putFrom_in (recL x) cs (i * 7) j (Nat.lt_of_lt_of_eq hj hl7.symm) (Nat.le_trans (Nat.le_of_eq (congrArg (i * 7 + ·) hl7)) hlt)
    exact Eq.trans h0 hv
  · rw [List.getElem?_set_ne (Ne.symm hik)] at hy
    rw [putFrom_out _ _ _ _ (by rw [hl7]; omega)]
    exact h i y hy j v hv

/-- while they are written over: lists with one mark behind each -/
structure Ph2 (r : Rsp Rec) (A : Option Addr) (c : Nat) (D : Option Addr) (d : Nat) (w wr : World) (h : Nat) (cR cN : Value) (bN : Nat) (xs : List Bs) (bR : Nat) (ys : List Rec) : Prop where
  low : Below w.heap.size w wr
  hlt : w.heap.size < h
  box : Blk wr w.heap.size 26 (boxC r (.slice A r.recs.length c) (.slice D r.names.length d))
  cpy : Blk wr h 26 (boxC r cR cN)
  hN : h < bN
  hR : h < bR
  names : ∃ cs, Blk wr bN 9 cs ∧ HasN cs xs
  recs : ∃ cs, Blk wr bR 29 cs ∧ HasR cs ys

section
variable {r : Rsp Rec} {A : Option Addr} {c : Nat} {D : Option Addr} {d : Nat} {w wr w' : World} {h : Nat} {cR cN : Value} {bN bR : Nat} {xs : List Bs} {ys : List Rec}
theorem blk_ne {w : World} {g g' : Nat} {t t' : TypeId} {cs cs' : Array Value} (h : Blk w g t cs) (h' : Blk w g' t' cs') (hne : t ≠ t') : g ≠ g' := by
  intro e
  subst e
  unfold Blk at h h'
  rw [h] at h'
  injection h' with h'
  injection h' with h1 h2
  exact hne h2
theorem Ph1.two {vN vR : Value} (p : Ph1 r A c D d w wr h cR cN vN xs vR ys) (hx : 0 < xs.length) (hy : 0 < ys.length) :
    ∃ bN kN bR kR, vN = .slice (some ⟨bN, 0, none⟩) xs.length kN ∧ xs.length ≤ kN ∧ kN ≤ maxLen ∧ vR = .slice (some ⟨bR, 0, none⟩) ys.length kR ∧ ys.length ≤ kR ∧ kR ≤ maxLen ∧ Ph2 r A c D d w wr h cR cN bN xs bR ys := by
  rcases p.names.2 with ⟨-, h0⟩ | ⟨bN, kN, cu, e1, g1, hg1, hc1, hm1, hs1, ht1⟩
  · omega
  rcases p.recs.2 with ⟨-, h0⟩ | ⟨bR, kR, cv, e2, g2, hg2, hc2, hm2, hs2, ht2⟩
  · omega
  refine ⟨bN, kN, bR, kR, e1, hc1, hm1, e2, hc2, hm2, p.low, p.hlt, p.box, p.cpy, g1, g2, ⟨cu, hg1, fun k x hk => ?_⟩, ⟨cv, hg2, fun k x hk j v hv => ?_⟩⟩
  · have h1 : (strV xs)[k]? = some (.string (S x)) := by simp [strV, hk]
    rw [← ht1, List.getElem?_take] at h1
    split at h1
    · simpa using h1
    · cases h1
  · have h1 : (flat ys)[k * 7 + j]? = some v := flat_at ys k x hk j v hv
    rw [← ht2, List.getElem?_take] at h1
    split at h1
    · simpa using h1
    · cases h1
theorem Ph2.below (p : Ph2 r A c D d w wr h cR cN bN xs bR ys) (hb : Below wr.heap.size wr w') : Ph2 r A c D d w w' h cR cN bN xs bR ys := by
  obtain ⟨cs, h1, h2⟩ := p.names
  obtain ⟨cs', h1', h2'⟩ := p.recs
  exact ⟨p.low.trans (hb.mono p.low.size), p.hlt, p.box.below hb p.box.lt, p.cpy.below hb p.cpy.lt, p.hN, p.hR, ⟨cs, h1.below hb h1.lt, h2⟩, ⟨cs', h1'.below hb h1'.lt, h2'⟩⟩
theorem Ph2.setC (p : Ph2 r A c D d w wr h cR cN bN xs bR ys) {cR' cN' : Value} (hb : Blk w' h 26 (boxC r cR' cN')) (hg : wr.grownBy w' (some h)) : Ph2 r A c D d w w' h cR' cN' bN xs bR ys := by
  obtain ⟨cs, h1, h2⟩ := p.names
  obtain ⟨cs', h1', h2'⟩ := p.recs
  have hlt := p.hlt
  have hN := p.hN
  have hR := p.hR
  exact ⟨below_gb p.low hg p.low.size (by omega), p.hlt, p.box.gb hg (by omega), hb, hN, hR, ⟨cs, h1.gb hg (by omega), h2⟩, ⟨cs', h1'.gb hg (by omega), h2'⟩⟩
theorem Ph2.setN (p : Ph2 r A c D d w wr h cR cN bN xs bR ys) {cs : Array Value} {xs' : List Bs} (hb : Blk w' bN 9 cs) (hh : HasN cs xs') (hg : wr.grownBy w' (some bN)) : Ph2 r A c D d w w' h cR cN bN xs' bR ys := by
  obtain ⟨cs0, h1, h2⟩ := p.names
  obtain ⟨cs', h1', h2'⟩ := p.recs
  have hlt := p.hlt
  have hN := p.hN
  have hne := blk_ne h1' h1 (by decide)
  exact ⟨below_gb p.low hg p.low.size (by omega), p.hlt, p.box.gb hg (by omega), p.cpy.gb hg (by omega), hN, p.hR, ⟨cs, hb, hh⟩, ⟨cs', h1'.gb hg hne, h2'⟩⟩
theorem Ph2.setR (p : Ph2 r A c D d w wr h cR cN bN xs bR ys) {cs : Array Value} {ys' : List Rec} (hb : Blk w' bR 29 cs) (hh : HasR cs ys') (hg : wr.grownBy w' (some bR)) : Ph2 r A c D d w w' h cR cN bN xs bR ys' := by
  obtain ⟨cs0, h1, h2⟩ := p.recs
  obtain ⟨cs', h1', h2'⟩ := p.names
  have hlt := p.hlt
  have hR := p.hR
  have hne := blk_ne h1' h1 (by decide)
  exact ⟨below_gb p.low hg p.low.size (by omega), p.hlt, p.box.gb hg (by omega), p.cpy.gb hg (by omega), p.hN, hR, ⟨cs', h1'.gb hg hne, h2'⟩, ⟨cs, hb, hh⟩⟩
theorem Ph2.namesAt (p : Ph2 r A c D d w wr h cR cN bN xs bR ys) {l : List Bs} {t : List Bs} (hl : xs = l ++ t) : NamesAt wr wr.heap.size (some ⟨bN, 0, none⟩) l := by
  obtain ⟨cs, h1, h2⟩ := p.names
  refine fun _ => ⟨bN, 0, rfl, h1.lt, fun i x hx => ?_⟩
  rw [Nat.zero_add, h1.cell]
  exact h2 i x (by rw [hl, List.getElem?_append_left (List.getElem?_eq_some_iff.1 hx).1]; exact hx)
theorem Ph2.recsAt (p : Ph2 r A c D d w wr h cR cN bN xs bR ys) {l : List Rec} {t : List Rec} (hl : ys = l ++ t) : RecsAt wr wr.heap.size (some ⟨bR, 0, none⟩) l := by
  obtain ⟨cs, h1, h2⟩ := p.recs
  refine fun _ => ⟨bR, 0, rfl, h1.lt, fun i x hx j v hv => ?_⟩
  rw [Nat.zero_add, h1.cell]
  exact h2 i x (by rw [hl, List.getElem?_append_left (List.getElem?_eq_some_iff.1 hx).1]; exact hx) j v hv
end

/-- a's first i, then b's others -/
def mix {α : Type} (a b : List α) (i : Nat) : List α := a.take i ++ b.drop i
theorem mix_zero {α : Type} (a b : List α) : mix a b 0 = b := by simp [mix]
theorem mix_full {α : Type} (a b : List α) (h : b.length = a.length) : mix a b a.length = a := by unfold mix; rw [List.take_length, List.drop_eq_nil_of_le (Nat.le_of_eq h), List.append_nil]
theorem mix_len {α : Type} (a b : List α) (h : b.length = a.length) {i : Nat} (hi : i ≤ a.length) : (mix a b i).length = a.length := by simp [mix]; omega
theorem mix_set {α : Type} (a b : List α) (h : b.length = a.length) {i : Nat} (hi : i < a.length) : (mix a b i).set i a[i] = mix a b (i + 1) := by
  unfold mix
  have hl : (a.take i).length = i := by simp; omega
  rw [List.set_append_right _ _ (by omega), hl, Nat.sub_self, List.drop_eq_getElem_cons (by omega), List.set_cons_zero, List.take_succ_eq_append_getElem hi, List.append_assoc]
  rfl
theorem mix_set_app {α : Type} (a b t : List α) (h : b.length = a.length) {i : Nat} (hi : i < a.length) : (mix a b i ++ t).set i a[i] = mix a b (i + 1) ++ t := by
  rw [List.set_append_left _ _ (by rw [mix_len a b h (by omega)]; exact hi), mix_set a b h hi]

def markR : Rec := ⟨-77, 0, 0, 0, 0, [], []⟩
def addx (x : Bs) : Bs := x ++ [120]
def inc1 (q : Int) : Int := wrap64 (q + 1)
def incR (x : Rec) : Rec := { x with off := inc1 x.off }
theorem incR_ok {x : Rec} (h : x.ok) : (incR x).ok := by
  refine ⟨h.1, ?_, h.2.2⟩
  show I64 (inc1 x.off)
  unfold inc1 I64 wrap64
  omega
theorem lenN_addx (l : List Bs) : lenN (l.map addx) = lenN l + l.length := by
  induction l with
  | nil => rfl
  | cons x l ih => simp only [lenN, List.map_cons, List.sum_cons, List.length_cons, addx, List.length_append, List.length_nil] at ih ⊢; omega
theorem lenR_inc (l : List Rec) : lenR (l.map incR) = lenR l := by
  induction l with
  | nil => rfl
  | cons x l ih => simp only [lenR, List.map_cons, List.sum_cons, incR] at ih ⊢; omega

/-- Show of a value with these lists -/
theorem show_at (r : Rsp Rec) (xs : List Bs) (ys : List Rec) (n m : Nat) (hn : xs.length = n) (hm : ys.length = m) (A : Option Addr) (c : Nat) (D : Option Addr) (d : Nat) (w : World) (ht : Tab w) (hcd : Cod w) (hid : 0 ≤ r.id ∧ r.id < 4294967296) (hop : I64 r.op) (hco : I64 r.code) (hof : I64 r.off) (hnu : I64 r.num) (hnm : NamesAt w w.heap.size D xs) (hN : lenN xs ≤ 2147483647) (hrc : RecsAt w w.heap.size A ys) (hrk : ∀ x ∈ ys, x.ok) (hR : lenR ys ≤ 2147483647) :
    Calls Tryd.prog 5 #[.agg (boxC r (.slice A m c) (.slice D n d))] w fun e w' => e = .returned (.string (S (showL { r with names := xs, recs := ys }))) ∧ Below w.heap.size w w' := by
  subst hn
  subst hm
  exact show_any { r with names := xs, recs := ys } A c D d w ht hcd hid hop hco hof hnu hnm hN hrc hrk hR
theorem show_back (r : Rsp Rec) (A : Option Addr) (c : Nat) (D : Option Addr) (d : Nat) (w : World) (ht : Tab w) (hcd : Cod w) (hid : 0 ≤ r.id ∧ r.id < 4294967296) (hop : I64 r.op) (hco : I64 r.code) (hof : I64 r.off) (hnu : I64 r.num) (hnm : NamesAt w w.heap.size D r.names) (hN : lenN r.names ≤ 2147483647) (hrc : RecsAt w w.heap.size A r.recs) (hrk : ∀ x ∈ r.recs, x.ok) (hR : lenR r.recs ≤ 2147483647) :
    Calls Tryd.prog 5 #[.agg (boxC r (.slice A r.recs.length c) (.slice D r.names.length d))] w fun e w' => e = .returned (.string (S (showL r))) ∧ Below w.heap.size w w' :=
  show_any r A c D d w ht hcd hid hop hco hof hnu hnm hN hrc hrk hR
theorem rshow_back (r : Rsp Rec) (A : Option Addr) (c : Nat) (D : Option Addr) (d : Nat) (w : World) (hid : 0 ≤ r.id ∧ r.id < 4294967296) (hop : I64 r.op) (hco : I64 r.code) (hof : I64 r.off) (hnu : I64 r.num) (hnm : NamesAt w w.heap.size D r.names) (hN : lenN r.names ≤ 2147483647) (hrc : RecsAt w w.heap.size A r.recs) (hrk : ∀ x ∈ r.recs, x.ok) (hR : lenR r.recs ≤ 2147483647) :
    Calls Tryd.prog 6 #[.agg (boxC r (.slice A r.recs.length c) (.slice D r.names.length d))] w fun e w' => e = .returned (.string (S (showL r))) ∧ Below w.heap.size w w' :=
  rshow_any r A c D d w hid hop hco hof hnu hnm hN hrc hrk hR
theorem at_q {P : Program} {ops : Array Oper} {C : World → Prop} {Q : Act → Prop} {rest : List Oper} {a : Act} (o : Oper) (h : wpQuiet P ops C Q (o :: rest) a) : wpQuiet P ops C Q (o :: rest) a := h
end Go.Proofs.YtepalbldleegiaaDoor.sh
