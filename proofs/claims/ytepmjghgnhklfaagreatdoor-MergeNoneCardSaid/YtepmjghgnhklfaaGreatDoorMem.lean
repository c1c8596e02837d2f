/-
  Words for memory: a block that is known whole; a row of structs that is written cell by cell; a made row.
  Conditions: none.
-/
import Derived.Test.YtepmjghgnhklfaaGreatDoorProg
import Derived.WalkKit
import Derived.Laws.MakeOwn
import Derived.Laws.Rows
import Derived.Deep.Draws
namespace Go.Proofs.YtepmjghgnhklfaaGreatDoor
open Go.RowKit

def Blk (w : World) (g : Nat) (t : TypeId) (cs : Array Value) : Prop := w.heap[g]? = some (.cells cs t (0, 0))
section
variable {w w' : World} {g : Nat} {t : TypeId} {cs : Array Value}
theorem Blk.lt (h : Blk w g t cs) : g < w.heap.size := by
  rcases Nat.lt_or_ge g w.heap.size with hlt | hge
  · exact hlt
  · unfold Blk at h; rw [Array.getElem?_eq_none hge] at h; cases h
theorem Blk.cell (h : Blk w g t cs) (i : Nat) : w.cell? ⟨g, i, none⟩ = cs[i]? := cell_of_row w g i cs t (0, 0) h
theorem Blk.cellD (h : Blk w g t cs) (i : Nat) (hi : i < cs.size) : w.cell? ⟨g, i, none⟩ = some (cs.getD i undef) := by
  rw [h.cell i, Array.getElem?_eq_getElem hi]; simp [Array.getD, hi]
theorem Blk.frozen (h : Blk w g t cs) (i : Nat) : w.frozen? ⟨g, i, none⟩ = false := by
  unfold Blk at h
  simp [World.frozen?, h]
theorem Blk.new (w : World) (t : TypeId) (cs : Array Value) : Blk (w.alloc (.cells cs t)) w.heap.size t cs := heap_alloc_new w _
theorem Blk.drew (h : Blk w g t cs) : Blk w.drew g t cs := h
theorem Blk.drewN (h : Blk w g t cs) (n : Nat) : Blk (w.drewN n) g t cs := h
theorem Blk.alloc (h : Blk w g t cs) (o : Obj) : Blk (w.alloc o) g t cs := (Below.heap_alloc w o g h.lt).trans h
theorem Blk.set_ (h : Blk w g t cs) (i : Nat) (u : Value) : Blk (w.setCell ⟨g, i, none⟩ u) g t (cs.setIfInBounds i u) := by
  unfold Blk at h ⊢
  simp [World.setCell, Array.getElem?_modify, h]
theorem Blk.far (h : Blk w g t cs) {p : Addr} (hp : g ≠ p.block) (u : Value) : Blk (w.setCell p u) g t cs := (Below.heap_setCell w p u g hp).trans h
theorem Blk.below {B : Nat} (h : Blk w g t cs) (hb : Below B w w') (hg : g < B) : Blk w' g t cs := (hb.block g hg).trans h
theorem Blk.grown {row : Option Nat} (h : Blk w g t cs) (hb : w.grownBy w' row) (hg : some g ≠ row) : Blk w' g t cs := (hb.block g h.lt hg).trans h
end

theorem run_make_rowN {P : Program} (t e : TypeId) (i : TypeInfo) (z : Value) (ht : P.underlying t = some (.slice e)) (hi : P.info? e = some i) (hz : i.zero = some z)
    (kl kc : IntKind) (n c : Nat) (hnc : n ≤ c) (hbytes : i.bytes * c ≤ 281474976710656) (h63 : c ≤ 9223372036854775807) (w : World) :
    (Instr.makeSlice t (.int kl (n : Int)) (.int kc (c : Int))).run P w = .ok (.slice (some ⟨w.heap.size, 0, none⟩) n c) (w.alloc (.cells (madeCells z.cells (c * i.size)) e)) := by
  have hb : (i.bytes : Int) * (c : Int) ≤ 281474976710656 := by
    have h : ((i.bytes * c : Nat) : Int) ≤ 281474976710656 := by omega
    rwa [Int.natCast_mul] at h
  have hr := run_make (P := P) w t e i z ht hi hz kl kc n c (by omega) (by omega) hb (by omega)
  simp only [Int.toNat_natCast] at hr
  exact hr
theorem madeCells_size (z : Array Value) (n : Nat) : (madeCells z n).size = n := by simp [madeCells]

/-! ### cells put one behind the other -/
/-- the k-th row of m cells is written, from its j-th cell on -/
def putFrom (c : Array Value) (at_ : Nat) : List Value → Array Value
  | [] => c
  | v :: l => putFrom (c.setIfInBounds at_ v) (at_ + 1) l
theorem putFrom_size (l : List Value) : ∀ (c : Array Value) (a : Nat), (putFrom c a l).size = c.size := by
  induction l with
  | nil => intro c a; rfl
  | cons v l ih => intro c a; simp [putFrom, ih]
theorem putFrom_out (l : List Value) : ∀ (c : Array Value) (a x : Nat), x < a ∨ a + l.length ≤ x → (putFrom c a l)[x]? = c[x]? := by
  induction l with
  | nil => intro c a x _; rfl
  | cons v l ih =>
    intro c a x h
    simp only [putFrom, List.length_cons] at h ⊢
    rw [ih _ _ _ (by omega), Array.getElem?_setIfInBounds, if_neg (by omega)]
theorem putFrom_in (l : List Value) : ∀ (c : Array Value) (a j : Nat), j < l.length → a + l.length ≤ c.size → (putFrom c a l)[a + j]? = l[j]? := by
  induction l with
  | nil => intro c a j h; simp at h
  | cons v l ih =>
    intro c a j h hs
    simp only [putFrom, List.length_cons] at h hs ⊢
    cases j with
    | zero => rw [putFrom_out _ _ _ _ (by omega), Array.getElem?_setIfInBounds]; simp; omega
    | succ j =>
      rw [show a + (j + 1) = a + 1 + j by omega, ih _ _ _ (by omega) (by simp; omega)]
      simp
/-- rows of m cells at the head of a block -/
def RowsAt (c : Array Value) (m n : Nat) (f : Nat → Nat → Value) : Prop := ∀ i, i < n → ∀ j, j < m → c[i * m + j]? = some (f i j)
theorem RowsAt.mono {c : Array Value} {m n n' : Nat} {f : Nat → Nat → Value} (h : RowsAt c m n f) (hn : n' ≤ n) : RowsAt c m n' f := fun i hi => h i (by omega)
theorem idx_lt {i n m j : Nat} (h : i < n) (hj : j < m) : i * m + j < n * m := by
  have := Nat.mul_le_mul_right m (show i + 1 ≤ n from h)
  rw [Nat.add_mul, Nat.one_mul] at this
  omega
/-- one row more -/
theorem RowsAt.put {c : Array Value} {m n k : Nat} {f : Nat → Nat → Value} (h : RowsAt c m k f) (hs : c.size = n * m) (hk : k < n) (l : List Value) (hl : l.length = m) (hf : ∀ j, j < m → l[j]? = some (f k j)) : RowsAt (putFrom c (k * m) l) m (k + 1) f := by
  intro i hi j hj
  have hkm : k * m + m ≤ n * m := by
    have := Nat.mul_le_mul_right m (show k + 1 ≤ n from hk)
    rwa [Nat.add_mul, Nat.one_mul] at this
  by_cases e : i = k
  · subst e
    rw [putFrom_in l c _ j (by omega) (by omega), hf j hj]
  · rw [putFrom_out l c _ _ (Or.inl (idx_lt (by omega) hj)), h i (by omega) j hj]
/-- a row that is written over, of rows that stand -/
theorem RowsAt.over {c : Array Value} {m n k : Nat} {f g : Nat → Nat → Value} (h : RowsAt c m n f) (hs : n * m ≤ c.size) (hk : k < n) (l : List Value) (hl : l.length = m) (hg : ∀ j, j < m → l[j]? = some (g k j)) (ho : ∀ i, i ≠ k → ∀ j, g i j = f i j) : RowsAt (putFrom c (k * m) l) m n g := by
  intro i hi j hj
  have hkm : k * m + m ≤ n * m := by
    have := Nat.mul_le_mul_right m (show k + 1 ≤ n from hk)
    rwa [Nat.add_mul, Nat.one_mul] at this
  by_cases e : i = k
  · subst e
    rw [putFrom_in l c _ j (by omega) (by omega), hg j hj]
  · rw [putFrom_out l c _ _ ?_, h i hi j hj, ho i e]
    rcases Nat.lt_or_gt_of_ne e with e | e
    · exact Or.inl (idx_lt e hj)
    · right
      have := Nat.mul_le_mul_right m (show k + 1 ≤ i from e)
      rw [Nat.add_mul, Nat.one_mul] at this
      omega

/-! ### a store and a load of whole values, as laws of the walk -/
section
variable {P : Program}
theorem grownBy_tr {a b c : World} {row : Option Nat} (h : a.grownBy b row) (k : b.grownBy c row) : a.grownBy c row :=
  ⟨k.os.trans h.os, k.tape.trans h.tape, k.output.trans h.output, Nat.le_trans h.size k.size, fun i hi hn => (k.block i (Nat.lt_of_lt_of_le hi h.size) hn).trans (h.block i hi hn)⟩
theorem add_flat (g x i : Nat) : (⟨g, x, none⟩ : Addr).add i = ⟨g, x + i, none⟩ := by unfold Addr.add; split <;> simp_all
theorem run_storeCells_blk (g x : Nat) (t : TypeId) : ∀ (l : List Value) (i : Nat) (cs : Array Value) (w : World), Blk w g t cs → (∀ v ∈ l, v.oneCell' = true) → x + i + l.length ≤ cs.size →
    ∃ w', (storeCells ⟨g, x, none⟩ l i).run P w = .ok () w' ∧ Blk w' g t (putFrom cs (x + i) l) ∧ w.grownBy w' (some g) ∧ w'.heap.size = w.heap.size
  | [], i, cs, w, hb, _, _ => ⟨w, rfl, hb, World.grownBy.refl w _, rfl⟩
  | v :: l, i, cs, w, hb, h1, hx => by
    have hlt : x + i < cs.size := by simp at hx; omega
    have hc := hb.cellD (x + i) hlt
    have hf := hb.frozen (x + i)
    have hrun : (store ⟨g, x + i, none⟩ v .plain).run P w = .ok () (w.setCell ⟨g, x + i, none⟩ v) := by
      rw [run_store P w _ v _ (h1 v List.mem_cons_self), hc]
      simp [hf]
    obtain ⟨w', hr, hb', hg, hs⟩ := run_storeCells_blk g x t l (i + 1) _ _ (hb.set_ (x + i) v) (fun u hu => h1 u (List.mem_cons_of_mem _ hu)) (by simp at hx ⊢; omega)
    refine ⟨w', ?_, ?_, ?_, ?_⟩
    · rw [storeCells, add_flat, Sem.run_bind, hrun]
      exact hr
    · rw [putFrom]; exact hb'
    · have h0 : w.grownBy (w.setCell ⟨g, x + i, none⟩ v) (some g) := ⟨rfl, rfl, rfl, by simp [World.setCell], fun k _ hne => Below.heap_setCell w ⟨g, x + i, none⟩ v k (fun e => hne (by rw [e]))⟩
      exact grownBy_tr h0 hg
    · rw [hs]; simp [World.setCell]

theorem wp_store_blk {o : Oper} {a : Act} {w : World} {K : Act → World → Prop} {Q : Exit → Act → World → Prop} (ty : TypeId) (p v : Operand) (ho : o.op = .store ty p v)
    (g x : Nat) (hp : a.eval p = .pointer (some ⟨g, x, none⟩)) (l : List Value) (hv : (a.eval v).cells = l.toArray) (h1 : ∀ u ∈ l, u.oneCell' = true)
    (t : TypeId) (cs : Array Value) (hb : Blk w g t cs) (hx : x + l.length ≤ cs.size) (hi : (P.info? ty).map (·.size) = some l.length)
    (h : ∀ w', Blk w' g t (putFrom cs x l) → w.grownBy w' (some g) → w'.heap.size = w.heap.size → K (a.put o.dst undef) w') : o.wp P a w K Q := by
  obtain ⟨w', hr, hb', hg, hs⟩ := run_storeCells_blk (P := P) g x t l 0 cs w hb h1 (by omega)
  unfold Oper.wp execOp
  cases hq : P.info? ty with
  | none => simp [hq] at hi
  | some i =>
    have hsz : i.size = l.length := by simpa [hq] using hi
    have hrun : (storeVar ty ⟨g, x, none⟩ (a.eval v)).run P w = .ok () w' := by
      unfold storeVar
      simp [Sem.run_bind, sizeOf, typeInfo, hq, hsz, hv, hr]
    simp only [ho, hp, Instr.storeAt, Instr.sureAddr, Sem.run_bind, Sem.run_pure, Result.andThen_ok, hrun]
    exact h w' hb' hg hs

theorem wpList_store_blk {ops : Array Oper} {rest : List Oper} {o : Oper} {a : Act} {w : World} {Q : Exit → Act → World → Prop} (hgd : o.guard = none) (ty : TypeId) (p v : Operand) (ho : o.op = .store ty p v)
    (g x : Nat) (hp : a.eval p = .pointer (some ⟨g, x, none⟩)) (l : List Value) (hv : (a.eval v).cells = l.toArray) (h1 : ∀ u ∈ l, u.oneCell' = true)
    (t : TypeId) (cs : Array Value) (hb : Blk w g t cs) (hx : x + l.length ≤ cs.size) (hi : (P.info? ty).map (·.size) = some l.length)
    (h : ∀ w', Blk w' g t (putFrom cs x l) → w.grownBy w' (some g) → w'.heap.size = w.heap.size → wpList P ops Q rest (a.put o.dst undef) w') : wpList P ops Q (o :: rest) a w :=
  wpList_plain hgd fun _ hK => wp_store_blk ty p v ho g x hp l hv h1 t cs hb hx hi fun w' h2 h3 h4 => hK _ _ (h w' h2 h3 h4)

theorem wp_load_list {o : Oper} {a : Act} {w : World} {K : Act → World → Prop} {Q : Exit → Act → World → Prop} (ty : TypeId) (p : Operand) (ho : o.op = .load ty p)
    (ad : Addr) (hp : a.eval p = .pointer (some ad)) (l : List Value) (hc : ∀ j v, l[j]? = some v → w.cell? (ad.add j) = some v) (d : TypeDesc)
    (hu : P.underlying ty = some d) (hd : (match d with | .struct _ | .array _ _ => true | _ => false) = true) (hi : (P.info? ty).map (·.size) = some l.length)
    (h : K (a.put o.dst (.agg l.toArray)) w) : o.wp P a w K Q := by
  have hl : (loadCells ad l.length).run P w = .ok l.toArray w := run_loadCells_list (P := P) w ad l hc
  unfold Oper.wp execOp
  cases hq : P.info? ty with
  | none => simp [hq] at hi
  | some i =>
    have hsz : i.size = l.length := by simpa [hq] using hi
    have hagg : (isAgg ty).run P w = .ok true w := by
      unfold isAgg
      rw [Sem.run_bind, run_underlying hu w]
      cases d <;> simp_all
    have hrun : (loadVar ty ad).run P w = .ok (.agg l.toArray) w := by
      simp [loadVar, Sem.run_bind, hagg, sizeOf, typeInfo, hq, hsz, hl]
    simp only [ho, hp, Instr.loadAt, Instr.sureAddr, Sem.run_bind, Sem.run_pure, Result.andThen_ok, hrun]
    exact h

theorem wpList_load_list {ops : Array Oper} {rest : List Oper} {o : Oper} {a : Act} {w : World} {Q : Exit → Act → World → Prop} (hgd : o.guard = none) (ty : TypeId) (p : Operand) (ho : o.op = .load ty p)
    (ad : Addr) (hp : a.eval p = .pointer (some ad)) (l : List Value) (hc : ∀ j v, l[j]? = some v → w.cell? (ad.add j) = some v) (d : TypeDesc)
    (hu : P.underlying ty = some d) (hd : (match d with | .struct _ | .array _ _ => true | _ => false) = true) (hi : (P.info? ty).map (·.size) = some l.length)
    (h : wpList P ops Q rest (a.put o.dst (.agg l.toArray)) w) : wpList P ops Q (o :: rest) a w :=
  wpList_plain hgd fun _ hK => wp_load_list ty p ho ad hp l hc d hu hd hi (hK _ _ h)
end
theorem cell_gb {w w' : World} {g : Nat} (h : w.grownBy w' (some g)) {p : Addr} (hb : p.block < w.heap.size) (hne : p.block ≠ g) : w'.cell? p = w.cell? p :=
  World.cell?_of_block (h.block p.block hb (fun e => hne (by injection e)))
theorem Blk.gb {w w' : World} {g g' : Nat} {t : TypeId} {cs : Array Value} (h : Blk w g t cs) (hg : w.grownBy w' (some g')) (hne : g ≠ g') : Blk w' g t cs := h.grown hg (fun e => hne (by injection e))
theorem below_gb {B : Nat} {a w w' : World} {g : Nat} (h : Below B a w) (hg : w.grownBy w' (some g)) (hB : B ≤ w.heap.size) (hr : B ≤ g) : Below B a w' := h.grown hg hB (fun k e => by injection e with e; omega)
theorem wpList_store_one {P : Program} {ops : Array Oper} {rest : List Oper} {o : Oper} {a : Act} {w : World} {Q : Exit → Act → World → Prop} (hgd : o.guard = none) (ty : TypeId) (p v : Operand) (ho : o.op = .store ty p v)
    (g x : Nat) (hp : a.eval p = .pointer (some ⟨g, x, none⟩)) (u : Value) (hv : a.eval v = u) (hc : u.cells = #[u]) (h1 : u.oneCell' = true)
    (t : TypeId) (cs : Array Value) (hb : Blk w g t cs) (hx : x + 1 ≤ cs.size) (hi : (P.info? ty).map (·.size) = some 1)
    (h : ∀ w', Blk w' g t (putFrom cs x [u]) → w.grownBy w' (some g) → w'.heap.size = w.heap.size → wpList P ops Q rest (a.put o.dst undef) w') : wpList P ops Q (o :: rest) a w :=
  wpList_store_blk hgd ty p v ho g x hp [u] (by rw [hv, hc]) (fun y hy => by rw [List.mem_singleton] at hy; subst hy; exact h1) t cs hb hx hi h
theorem int_cells (k : IntKind) (n : Int) : (Value.int k n).cells = #[Value.int k n] := rfl
/-- a guard for an arm: with_reducible it fails at once at another operation -/
theorem at_op {P : Program} {ops : Array Oper} {rest : List Oper} {a : Act} {w : World} {Q : Exit → Act → World → Prop} (o : Oper) (h : wpList P ops Q (o :: rest) a w) : wpList P ops Q (o :: rest) a w := h
end Go.Proofs.YtepmjghgnhklfaaGreatDoor
