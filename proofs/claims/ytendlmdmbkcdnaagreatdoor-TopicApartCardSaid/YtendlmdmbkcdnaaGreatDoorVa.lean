/-
  Texts of the proof joined by a program: Mem Oca Ocb Rd Occ Ocd Oce.
-/
import Derived.Test.YtendlmdmbkcdnaaGreatDoorProg
import Derived.WalkKit
import Derived.Laws.MakeOwn
import Derived.Laws.Rows
import Derived.Deep.Draws
import Derived.WalkSpells
import Derived.WalkLawsBesides
import Derived.Lib.Hide
import Derived.Laws.BitsAllLaws
import Derived.Below
import Derived.Laws.OwnMore
import Derived.Deep.AppendLies
import Derived.Maps.AppendAt
import Derived.RegionTactic
import Derived.OwnWalk
import Derived.Lib.ConvBytes
set_option linter.unusedSimpArgs false
set_option linter.unusedVariables false
namespace Go.Proofs.YtendlmdmbkcdnaaGreatDoor
open Go.RowKit
def Blk (w : World) (g : Nat) (t : TypeId) (cs : Array Value) : Prop := w.heap[g]? = some (.cells cs t (0, 0))
section
variable {w w' : World} {g : Nat} {t : TypeId} {cs : Array Value}
theorem Blk.lt (h : Blk w g t cs) : g < w.heap.size := by
 rcases Nat.lt_or_ge g w.heap.size with hlt | hge
 ·exact hlt
 ·unfold Blk at h; rw [Array.getElem?_eq_none hge] at h; cases h
theorem Blk.cell (h : Blk w g t cs) (i : Nat) : w.cell? ⟨g, i, none⟩ = cs[i]? := cell_of_row w g i cs t (0, 0) h
theorem Blk.cellD (h : Blk w g t cs) (i : Nat) (hi : i < cs.size) : w.cell? ⟨g, i, none⟩ = some (cs.getD i undef) := by
 rw [h.cell i, Array.getElem?_eq_getElem hi]; simp [Array.getD, hi]
theorem Blk.frozen (h : Blk w g t cs) (i : Nat) : w.frozen? ⟨g, i, none⟩ = false := by
 unfold Blk at h
 simp [World.frozen?, h]
theorem Blk.new (w : World) (t : TypeId) (cs : Array Value) : Blk (w.alloc (.cells cs t)) w.heap.size t cs := heap_alloc_new w _
theorem Blk.drew (h : Blk w g t cs) : Blk w.drew g t cs := h
theorem Blk.drewN (h : Blk w g t cs) (n : Nat) : Blk (w.drewN n) g t cs := h
theorem Blk.alloc (h : Blk w g t cs) (o : Obj) : Blk (w.alloc o) g t cs := (Below.heap_alloc w o g h.lt).trans h
theorem Blk.set_ (h : Blk w g t cs) (i : Nat) (u : Value) : Blk (w.setCell ⟨g, i, none⟩ u) g t (cs.setIfInBounds i u) := by
 unfold Blk at h ⊢
 simp [World.setCell, Array.getElem?_modify, h]
theorem Blk.far (h : Blk w g t cs) {p : Addr} (hp : g ≠ p.block) (u : Value) : Blk (w.setCell p u) g t cs := (Below.heap_setCell w p u g hp).trans h
theorem Blk.below {B : Nat} (h : Blk w g t cs) (hb : Below B w w') (hg : g < B) : Blk w' g t cs := (hb.block g hg).trans h
theorem Blk.grown {row : Option Nat} (h : Blk w g t cs) (hb : w.grownBy w' row) (hg : some g ≠ row) : Blk w' g t cs := (hb.block g h.lt hg).trans h
end
theorem run_make_rowN {P : Program} (t e : TypeId) (i : TypeInfo) (z : Value) (ht : P.underlying t = some (.slice e)) (hi : P.info? e = some i) (hz : i.zero = some z)
  (kl kc : IntKind) (n c : Nat) (hnc : n <= c) (hbytes : i.bytes * c <= 281474976710656) (h63 : c <= 9223372036854775807) (w : World) :
  (Instr.makeSlice t (.int kl (n : Int)) (.int kc (c : Int))).run P w = .ok (.slice (some ⟨w.heap.size, 0, none⟩) n c) (w.alloc (.cells (madeCells z.cells (c * i.size)) e)) := by
 have hb : (i.bytes : Int) * (c : Int) <= 281474976710656 := by
  have h : ((i.bytes * c : Nat) : Int) <= 281474976710656 := by omega
  rwa [Int.natCast_mul] at h
 have hr := run_make (P := P) w t e i z ht hi hz kl kc n c (by omega) (by omega) hb (by omega)
 simp only [Int.toNat_natCast] at hr
 exact hr
theorem madeCells_size (z : Array Value) (n : Nat) : (madeCells z n).size = n := by simp [madeCells]
def putFrom (c : Array Value) (at_ : Nat) : List Value -> Array Value
 | [] => c
 | v :: l => putFrom (c.setIfInBounds at_ v) (at_ + 1) l
theorem putFrom_size (l : List Value) : ∀ (c : Array Value) (a : Nat), (putFrom c a l).size = c.size := by
 induction l with
 | nil => intro c a; rfl
 | cons v l ih => intro c a; simp [putFrom, ih]
theorem putFrom_out (l : List Value) : ∀ (c : Array Value) (a x : Nat), x < a \/ a + l.length <= x -> (putFrom c a l)[x]? = c[x]? := by
 induction l with
 | nil => intro c a x _; rfl
 | cons v l ih =>
  intro c a x h
  simp only [putFrom, List.length_cons] at h ⊢
  rw [ih _ _ _ (by omega), Array.getElem?_setIfInBounds, if_neg (by omega)]
theorem putFrom_in (l : List Value) : ∀ (c : Array Value) (a j : Nat), j < l.length -> a + l.length <= c.size -> (putFrom c a l)[a + j]? = l[j]? := by
 induction l with
 | nil => intro c a j h; simp at h
 | cons v l ih =>
  intro c a j h hs
  simp only [putFrom, List.length_cons] at h hs ⊢
  cases j with
  | zero => rw [putFrom_out _ _ _ _ (by omega), Array.getElem?_setIfInBounds]; simp; omega
  | succ j =>
   rw [show a + (j + 1) = a + 1 + j by omega, ih _ _ _ (by omega) (by simp; omega)]
   simp
def RowsAt (c : Array Value) (m n : Nat) (f : Nat -> Nat -> Value) : Prop := ∀ i, i < n -> ∀ j, j < m -> c[i * m + j]? = some (f i j)
theorem RowsAt.mono {c : Array Value} {m n n' : Nat} {f : Nat -> Nat -> Value} (h : RowsAt c m n f) (hn : n' <= n) : RowsAt c m n' f := fun i hi => h i (by omega)
theorem idx_lt {i n m j : Nat} (h : i < n) (hj : j < m) : i * m + j < n * m := by
 have := Nat.mul_le_mul_right m (show i + 1 <= n from h)
 rw [Nat.add_mul, Nat.one_mul] at this
 omega
theorem RowsAt.put {c : Array Value} {m n k : Nat} {f : Nat -> Nat -> Value} (h : RowsAt c m k f) (hs : c.size = n * m) (hk : k < n) (l : List Value) (hl : l.length = m) (hf : ∀ j, j < m -> l[j]? = some (f k j)) : RowsAt (putFrom c (k * m) l) m (k + 1) f := by
 intro i hi j hj
 have hkm : k * m + m <= n * m := by
  have := Nat.mul_le_mul_right m (show k + 1 <= n from hk)
  rwa [Nat.add_mul, Nat.one_mul] at this
 by_cases e : i = k
 ·subst e
  rw [putFrom_in l c _ j (by omega) (by omega), hf j hj]
 ·rw [putFrom_out l c _ _ (Or.inl (idx_lt (by omega) hj)), h i (by omega) j hj]
theorem RowsAt.over {c : Array Value} {m n k : Nat} {f g : Nat -> Nat -> Value} (h : RowsAt c m n f) (hs : n * m <= c.size) (hk : k < n) (l : List Value) (hl : l.length = m) (hg : ∀ j, j < m -> l[j]? = some (g k j)) (ho : ∀ i, i ≠ k -> ∀ j, g i j = f i j) : RowsAt (putFrom c (k * m) l) m n g := by
 intro i hi j hj
 have hkm : k * m + m <= n * m := by
  have := Nat.mul_le_mul_right m (show k + 1 <= n from hk)
  rwa [Nat.add_mul, Nat.one_mul] at this
 by_cases e : i = k
 ·subst e
  rw [putFrom_in l c _ j (by omega) (by omega), hg j hj]
 ·rw [putFrom_out l c _ _ ?_, h i hi j hj, ho i e]
  rcases Nat.lt_or_gt_of_ne e with e | e
  ·exact Or.inl (idx_lt e hj)
  ·right
   have := Nat.mul_le_mul_right m (show k + 1 <= i from e)
   rw [Nat.add_mul, Nat.one_mul] at this
   omega
section
variable {P : Program}
theorem grownBy_tr {a b c : World} {row : Option Nat} (h : a.grownBy b row) (k : b.grownBy c row) : a.grownBy c row :=
 ⟨k.os.trans h.os, k.tape.trans h.tape, k.output.trans h.output, Nat.le_trans h.size k.size, fun i hi hn => (k.block i (Nat.lt_of_lt_of_le hi h.size) hn).trans (h.block i hi hn)⟩
theorem add_flat (g x i : Nat) : (⟨g, x, none⟩ : Addr).add i = ⟨g, x + i, none⟩ := by unfold Addr.add; split <;> simp_all
theorem run_storeCells_blk (g x : Nat) (t : TypeId) : ∀ (l : List Value) (i : Nat) (cs : Array Value) (w : World), Blk w g t cs -> (∀ v ∈ l, v.oneCell' = true) -> x + i + l.length <= cs.size ->
  ∃ w', (storeCells ⟨g, x, none⟩ l i).run P w = .ok () w' /\ Blk w' g t (putFrom cs (x + i) l) /\ w.grownBy w' (some g) /\ w'.heap.size = w.heap.size
 | [], i, cs, w, hb, _, _ => ⟨w, rfl, hb, World.grownBy.refl w _, rfl⟩
 | v :: l, i, cs, w, hb, h1, hx => by
  have hlt : x + i < cs.size := by simp at hx; omega
  have hc := hb.cellD (x + i) hlt
  have hf := hb.frozen (x + i)
  have hrun : (store ⟨g, x + i, none⟩ v .plain).run P w = .ok () (w.setCell ⟨g, x + i, none⟩ v) := by
   rw [run_store P w _ v _ (h1 v List.mem_cons_self), hc]
   simp [hf]
  obtain ⟨w', hr, hb', hg, hs⟩ := run_storeCells_blk g x t l (i + 1) _ _ (hb.set_ (x + i) v) (fun u hu => h1 u (List.mem_cons_of_mem _ hu)) (by simp at hx ⊢; omega)
  refine ⟨w', ?_, ?_, ?_, ?_⟩
  ·rw [storeCells, add_flat, Sem.run_bind, hrun]
   exact hr
  ·rw [putFrom]; exact hb'
  ·have h0 : w.grownBy (w.setCell ⟨g, x + i, none⟩ v) (some g) := ⟨rfl, rfl, rfl, by simp [World.setCell], fun k _ hne => Below.heap_setCell w ⟨g, x + i, none⟩ v k (fun e => hne (by rw [e]))⟩
   exact grownBy_tr h0 hg
  ·rw [hs]; simp [World.setCell]
theorem wp_store_blk {o : Oper} {a : Act} {w : World} {K : Act -> World -> Prop} {Q : Exit -> Act -> World -> Prop} (ty : TypeId) (p v : Operand) (ho : o.op = .store ty p v)
  (g x : Nat) (hp : a.eval p = .pointer (some ⟨g, x, none⟩)) (l : List Value) (hv : (a.eval v).cells = l.toArray) (h1 : ∀ u ∈ l, u.oneCell' = true)
  (t : TypeId) (cs : Array Value) (hb : Blk w g t cs) (hx : x + l.length <= cs.size) (hi : (P.info? ty).map (·.size) = some l.length)
  (h : ∀ w', Blk w' g t (putFrom cs x l) -> w.grownBy w' (some g) -> w'.heap.size = w.heap.size -> K (a.put o.dst undef) w') : o.wp P a w K Q := by
 obtain ⟨w', hr, hb', hg, hs⟩ := run_storeCells_blk (P := P) g x t l 0 cs w hb h1 (by omega)
 unfold Oper.wp execOp
 cases hq : P.info? ty with
 | none => simp [hq] at hi
 | some i =>
  have hsz : i.size = l.length := by simpa [hq] using hi
  have hrun : (storeVar ty ⟨g, x, none⟩ (a.eval v)).run P w = .ok () w' := by
   unfold storeVar
   simp [Sem.run_bind, sizeOf, typeInfo, hq, hsz, hv, hr]
  simp only [ho, hp, Instr.storeAt, Instr.sureAddr, Sem.run_bind, Sem.run_pure, Result.andThen_ok, hrun]
  exact h w' hb' hg hs
theorem wpList_store_blk {ops : Array Oper} {rest : List Oper} {o : Oper} {a : Act} {w : World} {Q : Exit -> Act -> World -> Prop} (hgd : o.guard = none) (ty : TypeId) (p v : Operand) (ho : o.op = .store ty p v)
  (g x : Nat) (hp : a.eval p = .pointer (some ⟨g, x, none⟩)) (l : List Value) (hv : (a.eval v).cells = l.toArray) (h1 : ∀ u ∈ l, u.oneCell' = true)
  (t : TypeId) (cs : Array Value) (hb : Blk w g t cs) (hx : x + l.length <= cs.size) (hi : (P.info? ty).map (·.size) = some l.length)
  (h : ∀ w', Blk w' g t (putFrom cs x l) -> w.grownBy w' (some g) -> w'.heap.size = w.heap.size -> wpList P ops Q rest (a.put o.dst undef) w') : wpList P ops Q (o :: rest) a w :=
 wpList_plain hgd fun _ hK => wp_store_blk ty p v ho g x hp l hv h1 t cs hb hx hi fun w' h2 h3 h4 => hK _ _ (h w' h2 h3 h4)
theorem wp_load_list {o : Oper} {a : Act} {w : World} {K : Act -> World -> Prop} {Q : Exit -> Act -> World -> Prop} (ty : TypeId) (p : Operand) (ho : o.op = .load ty p)
  (ad : Addr) (hp : a.eval p = .pointer (some ad)) (l : List Value) (hc : ∀ j v, l[j]? = some v -> w.cell? (ad.add j) = some v) (d : TypeDesc)
  (hu : P.underlying ty = some d) (hd : (match d with | .struct _ | .array _ _ => true | _ => false) = true) (hi : (P.info? ty).map (·.size) = some l.length)
  (h : K (a.put o.dst (.agg l.toArray)) w) : o.wp P a w K Q := by
 have hl : (loadCells ad l.length).run P w = .ok l.toArray w := run_loadCells_list (P := P) w ad l hc
 unfold Oper.wp execOp
 cases hq : P.info? ty with
 | none => simp [hq] at hi
 | some i =>
  have hsz : i.size = l.length := by simpa [hq] using hi
  have hagg : (isAgg ty).run P w = .ok true w := by
   unfold isAgg
   rw [Sem.run_bind, run_underlying hu w]
   cases d <;> simp_all
  have hrun : (loadVar ty ad).run P w = .ok (.agg l.toArray) w := by
   simp [loadVar, Sem.run_bind, hagg, sizeOf, typeInfo, hq, hsz, hl]
  simp only [ho, hp, Instr.loadAt, Instr.sureAddr, Sem.run_bind, Sem.run_pure, Result.andThen_ok, hrun]
  exact h
theorem wpList_load_list {ops : Array Oper} {rest : List Oper} {o : Oper} {a : Act} {w : World} {Q : Exit -> Act -> World -> Prop} (hgd : o.guard = none) (ty : TypeId) (p : Operand) (ho : o.op = .load ty p)
  (ad : Addr) (hp : a.eval p = .pointer (some ad)) (l : List Value) (hc : ∀ j v, l[j]? = some v -> w.cell? (ad.add j) = some v) (d : TypeDesc)
  (hu : P.underlying ty = some d) (hd : (match d with | .struct _ | .array _ _ => true | _ => false) = true) (hi : (P.info? ty).map (·.size) = some l.length)
  (h : wpList P ops Q rest (a.put o.dst (.agg l.toArray)) w) : wpList P ops Q (o :: rest) a w :=
 wpList_plain hgd fun _ hK => wp_load_list ty p ho ad hp l hc d hu hd hi (hK _ _ h)
end
theorem Blk.gb {w w' : World} {g g' : Nat} {t : TypeId} {cs : Array Value} (h : Blk w g t cs) (hg : w.grownBy w' (some g')) (hne : g ≠ g') : Blk w' g t cs := h.grown hg (fun e => hne (by injection e))
theorem below_gb {B : Nat} {a w w' : World} {g : Nat} (h : Below B a w) (hg : w.grownBy w' (some g)) (hB : B <= w.heap.size) (hr : B <= g) : Below B a w' := h.grown hg hB (fun k e => by injection e with e; omega)
theorem wpList_store_one {P : Program} {ops : Array Oper} {rest : List Oper} {o : Oper} {a : Act} {w : World} {Q : Exit -> Act -> World -> Prop} (hgd : o.guard = none) (ty : TypeId) (p v : Operand) (ho : o.op = .store ty p v)
  (g x : Nat) (hp : a.eval p = .pointer (some ⟨g, x, none⟩)) (u : Value) (hv : a.eval v = u) (hc : u.cells = #[u]) (h1 : u.oneCell' = true)
  (t : TypeId) (cs : Array Value) (hb : Blk w g t cs) (hx : x + 1 <= cs.size) (hi : (P.info? ty).map (·.size) = some 1)
  (h : ∀ w', Blk w' g t (putFrom cs x [u]) -> w.grownBy w' (some g) -> w'.heap.size = w.heap.size -> wpList P ops Q rest (a.put o.dst undef) w') : wpList P ops Q (o :: rest) a w :=
 wpList_store_blk hgd ty p v ho g x hp [u] (by rw [hv, hc]) (fun y hy => by rw [List.mem_singleton] at hy; subst hy; exact h1) t cs hb hx hi h
theorem at_op {P : Program} {ops : Array Oper} {rest : List Oper} {a : Act} {w : World} {Q : Exit -> Act -> World -> Prop} (o : Oper) (h : wpList P ops Q (o :: rest) a w) : wpList P ops Q (o :: rest) a w := h
end Go.Proofs.YtendlmdmbkcdnaaGreatDoor
namespace Go.Proofs.YtendlmdmbkcdnaaGreatDoor.oc
open Go.RowKit
open Go.Lib (hid)
set_option maxRecDepth 100000
def stepN (n : Nat) : Nat := if n % 2 = 1 then (n / 2) ^^^ 2197175160 else n / 2
theorem stepN_lt {n : Nat} (h : n < 4294967296) : stepN n < 4294967296 := by
 unfold stepN
 split
 ·exact Nat.xor_lt_two_pow (n := 32) (by omega) (by decide)
 ·omega
theorem and_one (n : Nat) (h : n < 4294967296) : bits .and .u32 (n : Int) 1 = ((n % 2 : Nat) : Int) := by
 have := u32_and_nat n 1 h (by decide)
 rwa [Nat.and_one_is_mod] at this
theorem xor_half (n : Nat) (h : n < 4294967296) : bits .xor .u32 ((n : Int) / 2) 2197175160 = (((n / 2) ^^^ 2197175160 : Nat) : Int) := by
 rw [show ((n : Int) / 2) = ((n / 2 : Nat) : Int) by omega]
 exact u32_xor_nat (n / 2) 2197175160 (by omega) (by decide)
theorem ret_u32 {a b : Int} (h : a = b) : Ending.returned (.int .u32 a) = .returned (.int .u32 b) := by rw [h]
theorem step_any (n : Nat) (h : n < 4294967296) (w : World) : Calls Tryz.prog 207 #[.int .u32 (n : Int)] w fun e w' => e = .returned (.int .u32 (stepN n : Nat)) /\ w = w' := by
 have ha := and_one n h
 have hx := xor_half n h
 have h' : (n : Int) < 4294967296 := by omega
 by_cases hn : n % 2 = 1
 ·rw [hn] at ha
  have HS : Hid (stepN n = (n / 2) ^^^ 2197175160) := hid (by unfold stepN; rw [if_pos hn])
  clear hn
  generalize (n / 2) ^^^ 2197175160 = k at *
  go_enter Tryz.func207, Tryz.ntmps207
  go_wp2
  go_ret
  exact ⟨ret_u32 (by rw [HS.out]), rfl⟩
 ·have h0 : n % 2 = 0 := by omega
  rw [h0] at ha
  have HS : Hid (stepN n = n / 2) := hid (by unfold stepN; rw [if_neg hn])
  clear hn hx h0
  go_enter Tryz.func207, Tryz.ntmps207
  go_wp2
  go_ret
  exact ⟨ret_u32 (by rw [HS.out]; omega), rfl⟩
def step4 : Nat -> Nat -> Nat
 | 0, n => n
 | k + 1, n => stepN (step4 k n)
def tabN (i : Nat) : Nat := step4 4 i
theorem step4_lt {n : Nat} (h : n < 4294967296) : ∀ k, step4 k n < 4294967296
 | 0 => h
 | k + 1 => stepN_lt (step4_lt h k)
theorem tabN_lt {n : Nat} (h : n < 16) : tabN n < 4294967296 := step4_lt (by omega) 4
def tabL (i : Nat) : List Value := (List.range 16).map fun j => if j < i then .int .u32 (tabN j : Nat) else .int .u32 0
theorem tabL_length (i : Nat) : (tabL i).length = 16 := by simp [tabL]
theorem tabL_at (i j : Nat) (h : j < 16) : (tabL i)[j]? = some (if j < i then .int .u32 (tabN j : Nat) else .int .u32 0) := by simp [tabL, h]
theorem tabL_set (i : Nat) (h : i < 16) : (tabL i).toArray.setIfInBounds i (.int .u32 (tabN i : Nat)) = (tabL (i + 1)).toArray := by
 apply Array.ext_getElem?
 intro j
 rw [Array.getElem?_setIfInBounds]
 by_cases hj : j < 16
 ·by_cases e : i = j
  ·subst e
   rw [if_pos rfl, if_pos (by simp [tabL_length]; exact h), List.getElem?_toArray, tabL_at _ _ h, if_pos (by omega)]
  ·rw [if_neg e, List.getElem?_toArray, List.getElem?_toArray, tabL_at _ _ hj, tabL_at _ _ hj]
   by_cases h1 : j < i
   ·rw [if_pos h1, if_pos (by omega)]
   ·rw [if_neg h1, if_neg (by omega)]
 ·rw [if_neg (by omega), List.getElem?_toArray, List.getElem?_toArray, List.getElem?_eq_none (by rw [tabL_length]; omega), List.getElem?_eq_none (by rw [tabL_length]; omega)]
theorem put_all (l : List Value) (c : Array Value) (h : c.size = l.length) : putFrom c 0 l = l.toArray := by
 apply Array.ext_getElem?
 intro j
 by_cases hj : j < l.length
 ·have := putFrom_in l c 0 j hj (by omega)
  rw [Nat.zero_add] at this
  rw [this, List.getElem?_toArray]
 ·rw [Array.getElem?_eq_none (by rw [putFrom_size]; omega), Array.getElem?_eq_none (by simp; omega)]
theorem results_sums (tmps : Array Value) (w : World) (b : Nat) (cs : List Value) (hl : cs.length = 16) (h0 : tmps.getD 0 undef = .pointer (some ⟨b, 0, none⟩)) (hc : Blk w b 283 cs.toArray) :
  (results Tryz.f165 tmps).run Tryz.prog w = .ok (.agg cs.toArray) w := by
 have h0' : tmps[0]?.getD undef = .pointer (some ⟨b, 0, none⟩) := by simpa using h0
 have hi : (Tryz.prog.info? 283).map (·.size) = some cs.toArray.size := by simp only [List.size_toArray, hl]; kernel_rfl
 simp [results, h0', asAddr, run_loadVar_row w b 283 283 cs.toArray (0, 0) _ hc Tryz.underlying283 rfl hi]
set_option maxHeartbeats 1000000 in
theorem sums_any (w : World) : Calls Tryz.prog 165 #[] w fun e w' => e = .returned (.agg (tabL 16).toArray) /\ Below w.heap.size w w' := by
 have hT0 : Blk ((w.alloc (.cells #[.int .u32 0, .int .u32 0, .int .u32 0, .int .u32 0, .int .u32 0, .int .u32 0, .int .u32 0, .int .u32 0, .int .u32 0, .int .u32 0, .int .u32 0, .int .u32 0, .int .u32 0, .int .u32 0, .int .u32 0, .int .u32 0] 283)).alloc (.cells #[.int .u32 0, .int .u32 0, .int .u32 0, .int .u32 0, .int .u32 0, .int .u32 0, .int .u32 0, .int .u32 0, .int .u32 0, .int .u32 0, .int .u32 0, .int .u32 0, .int .u32 0, .int .u32 0, .int .u32 0, .int .u32 0] 283)) w.heap.size 283 (tabL 0).toArray := (Blk.new w _ _).alloc _
 have hT1 : Blk ((w.alloc (.cells #[.int .u32 0, .int .u32 0, .int .u32 0, .int .u32 0, .int .u32 0, .int .u32 0, .int .u32 0, .int .u32 0, .int .u32 0, .int .u32 0, .int .u32 0, .int .u32 0, .int .u32 0, .int .u32 0, .int .u32 0, .int .u32 0] 283)).alloc (.cells #[.int .u32 0, .int .u32 0, .int .u32 0, .int .u32 0, .int .u32 0, .int .u32 0, .int .u32 0, .int .u32 0, .int .u32 0, .int .u32 0, .int .u32 0, .int .u32 0, .int .u32 0, .int .u32 0, .int .u32 0, .int .u32 0] 283)) (w.heap.size + 1) 283 (tabL 0).toArray := by have := Blk.new (w.alloc (.cells #[.int .u32 0, .int .u32 0, .int .u32 0, .int .u32 0, .int .u32 0, .int .u32 0, .int .u32 0, .int .u32 0, .int .u32 0, .int .u32 0, .int .u32 0, .int .u32 0, .int .u32 0, .int .u32 0, .int .u32 0, .int .u32 0] 283)) 283 #[.int .u32 0, .int .u32 0, .int .u32 0, .int .u32 0, .int .u32 0, .int .u32 0, .int .u32 0, .int .u32 0, .int .u32 0, .int .u32 0, .int .u32 0, .int .u32 0, .int .u32 0, .int .u32 0, .int .u32 0, .int .u32 0]; rwa [World.size_alloc] at this
 have hb : Below w.heap.size w ((w.alloc (.cells #[.int .u32 0, .int .u32 0, .int .u32 0, .int .u32 0, .int .u32 0, .int .u32 0, .int .u32 0, .int .u32 0, .int .u32 0, .int .u32 0, .int .u32 0, .int .u32 0, .int .u32 0, .int .u32 0, .int .u32 0, .int .u32 0] 283)).alloc (.cells #[.int .u32 0, .int .u32 0, .int .u32 0, .int .u32 0, .int .u32 0, .int .u32 0, .int .u32 0, .int .u32 0, .int .u32 0, .int .u32 0, .int .u32 0, .int .u32 0, .int .u32 0, .int .u32 0, .int .u32 0, .int .u32 0] 283)) := ((Below.refl _ _).alloc (Nat.le_refl _) _).alloc (by simp) _
 go_enter Tryz.func165, Tryz.ntmps165
 go_wp2_with fail
 generalize World.alloc (World.alloc w _) _ = w0 at *
 have HT0 := hid hT0
 have HT1 := hid hT1
 have HB := hid hb
 clear hT0 hT1 hb
 go_loopw [4] (fun i wr => ∃ k : Nat, k <= 16 /\ i = .int .i64 (k : Int) /\ Hid (Blk wr (w.heap.size + 1) 283 (tabL k).toArray) /\ Hid (Blk wr w.heap.size 283 (tabL 0).toArray) /\ Hid (Below w.heap.size w wr)) (fun i _ => 16 - (intOf i).toNat)
 case atStart => exact ⟨0, Nat.zero_le _, rfl, HT1, HT0, HB⟩
 case round =>
  obtain ⟨k, hk, rfl, HR1, HR0, HRB⟩ := hrel
  clear HT0 HT1 HB
  by_cases hlt : k < 16
  ·have hlt' : decide ((k : Int) < 16) = true := by simp; omega
   go_wp2_with fail
   go_loop [3, 9] (fun x j => ∃ m : Nat, m <= 4 /\ j = .int .i64 (m : Int) /\ x = .int .u32 (step4 m k : Nat)) (fun _ j => 4 - (intOf j).toNat)
   case atStart => exact ⟨0, Nat.zero_le _, rfl, rfl⟩
   case round =>
    obtain ⟨m, hm, rfl, rfl⟩ := hrel
    have hs4 : step4 m k < 4294967296 := step4_lt (by omega) m
    obtain ⟨y, hy⟩ : ∃ y, step4 m k = y := ⟨_, rfl⟩
    have HY := hid hy
    rw [hy] at hs4 ⊢
    clear hy
    by_cases hm4 : m < 4
    ·go_wp2_with (go_at_call 207; refine (step_any _ hs4 _).mono ?_; rintro e w1 ⟨rfl, rfl⟩)
     go_round
     case rel => exact ⟨m + 1, by omega, by go_num, by rw [<- HY.out]; rfl⟩
     case measure => simp [intOf]; omega
    ·have hm' : m = 4 := by omega
     have HY4 : Hid (tabN k = y) := hid (by rw [<- HY.out, hm']; rfl)
     have c1 : wr.cell? ⟨w.heap.size + 1, k, none⟩ = some (.int .u32 0) := by rw [HR1.out.cell, List.getElem?_toArray, tabL_at _ _ hlt, if_neg (Nat.lt_irrefl _)]
     have f1 := HR1.out.frozen k
     clear hm' HY
     go_wp2_with fail
     have hb2 : Below w.heap.size w (wr.setCell ⟨w.heap.size + 1, k, none⟩ (.int .u32 (y : Nat))) := HRB.out.setCell (by simp) _
     have hr2 := HR1.out.set_ k (.int .u32 (y : Nat))
     rw [<- HY4.out, tabL_set k hlt, HY4.out] at hr2
     have hr0 := HR0.out.far (p := ⟨w.heap.size + 1, k, none⟩) (by simp) (.int .u32 (y : Nat))
     go_roundw
     case rel => exact ⟨k + 1, by omega, by go_num, hr2, hr0, hb2⟩
     case measure => simp [intOf]; omega
  ·obtain rfl : k = 16 := by omega
   go_wp2_with (first
    | ((with_reducible refine at_op ⟨_, .load 283 (.tmp 1), _, _, _, _⟩ ?_); refine wpList_load_list rfl 283 (.tmp 1) rfl ⟨w.heap.size + 1, 0, none⟩ rfl (tabL 16) (fun j v hv => by rw [add_flat, Nat.zero_add, HR1.out.cell, List.getElem?_toArray]; exact hv) _ Tryz.underlying283 rfl (by kernel_rfl) ?_)
    | ((with_reducible refine at_op ⟨_, .store 283 (.tmp 0) (.tmp 18), _, _, _, _⟩ ?_); refine wpList_store_blk rfl 283 (.tmp 0) (.tmp 18) rfl w.heap.size 0 rfl (tabL 16) rfl (by decide) 283 _ HR0.out (by simp [tabL_length]) (by kernel_rfl) ?_; intro w2 hT2 hg2 hs2)
    | fail)
   rw [put_all _ _ (by simp [tabL_length])] at hT2
   refine bodyPost_ret (results_sums _ _ w.heap.size (tabL 16) (tabL_length _) rfl hT2) rfl ⟨rfl, below_gb HRB.out hg2 HRB.out.size (Nat.le_refl _)⟩
def RB (w : World) (A : Option Addr) (l : List UInt8) : Prop := 0 < l.length -> ∃ b off, A = some ⟨b, off, none⟩ /\ b < w.heap.size /\ ∀ j (h : j < l.length), w.cell? ⟨b, off + j, none⟩ = some (.int .u8 (l[j].toNat : Int))
theorem RB.nil (w : World) (A : Option Addr) : RB w A [] := fun h => by simp at h
theorem RB.below {w w' : World} {A : Option Addr} {l : List UInt8} (h : RB w A l) (hb : Below w.heap.size w w') : RB w' A l := fun h0 => by
 obtain ⟨b, off, e, hlt, hc⟩ := h h0
 exact ⟨b, off, e, Nat.lt_of_lt_of_le hlt hb.size, fun j hj => (hb.cell (p := ⟨b, off + j, none⟩) hlt).trans (hc j hj)⟩
def crcRound (x c : Nat) : Nat :=
 let y := x ^^^ c
 let z := tabN (y % 16) ^^^ (y / 16)
 tabN (z % 16) ^^^ (z / 16)
def crcN (x : Nat) (l : List UInt8) : Nat := l.foldl (fun x c => crcRound x c.toNat) x
def extN (s : Nat) (l : List UInt8) : Nat := 4294967295 ^^^ crcN (4294967295 ^^^ s) l
theorem xor_lt {a b : Nat} (ha : a < 4294967296) (hb : b < 4294967296) : a ^^^ b < 4294967296 := Nat.xor_lt_two_pow (n := 32) (by omega) (by omega)
theorem crcRound_lt {x c : Nat} (hx : x < 4294967296) (hc : c < 256) : crcRound x c < 4294967296 := by
 unfold crcRound
 have hy : x ^^^ c < 4294967296 := xor_lt hx (by omega)
 have hz : tabN ((x ^^^ c) % 16) ^^^ ((x ^^^ c) / 16) < 4294967296 := xor_lt (tabN_lt (by omega)) (by omega)
 exact xor_lt (tabN_lt (by omega)) (by omega)
theorem crcN_lt {x : Nat} (hx : x < 4294967296) : ∀ (l : List UInt8), crcN x l < 4294967296
 | [] => hx
 | c :: l => crcN_lt (x := crcRound x c.toNat) (crcRound_lt hx c.toNat_lt) l
theorem crcN_snoc (x : Nat) (l : List UInt8) (c : UInt8) : crcN x (l ++ [c]) = crcRound (crcN x l) c.toNat := by simp [crcN]
theorem extN_lt {s : Nat} (hs : s < 4294967296) (l : List UInt8) : extN s l < 4294967296 := xor_lt (by decide) (crcN_lt (xor_lt (by decide) hs) l)
theorem e_not (x : Nat) (h : x < 4294967296) : bits .xor .u32 IntKind.u32.max (x : Int) = ((4294967295 ^^^ x : Nat) : Int) := u32_xor_nat 4294967295 x (by decide) h
theorem e_xor (x c : Nat) (h : x < 4294967296) (hc : c < 256) : bits .xor .u32 (x : Int) (c : Int) = ((x ^^^ c : Nat) : Int) := u32_xor_nat x c h (by omega)
theorem e_and (y : Nat) (h : y < 4294967296) : bits .and .u32 (y : Int) 15 = ((y % 16 : Nat) : Int) := by
 have := u32_and_nat y 15 h (by decide)
 rwa [show y &&& 15 = y % 16 from Nat.and_two_pow_sub_one_eq_mod y 4] at this
theorem e_mix (t y : Nat) (ht : t < 4294967296) (h : y < 4294967296) : bits .xor .u32 (t : Int) ((y : Int) / 16) = ((t ^^^ (y / 16) : Nat) : Int) := by
 rw [show ((y : Int) / 16) = ((y / 16 : Nat) : Int) by omega]
 exact u32_xor_nat t (y / 16) ht (by omega)
theorem take_snoc8 (l : List UInt8) (k : Nat) (h : k < l.length) : l.take (k + 1) = l.take k ++ [l[k]] := List.take_succ_eq_append_getElem h
set_option maxHeartbeats 2000000 in
theorem extend_any (s : Nat) (hs : s < 4294967296) (l : List UInt8) (hl : l.length <= 9223372036854775807) (A : Option Addr) (c : Nat) (w : World) (h : RB w A l) : Calls Tryz.prog 110 #[.int .u32 (s : Int), .slice A l.length c] w fun e w' => e = .returned (.int .u32 (extN s l : Nat)) /\ Below w.heap.size w w' := by
 have hnot := e_not s hs
 have hx0 : 4294967295 ^^^ s < 4294967296 := xor_lt (by decide) hs
 have HEX : Hid (extN s l = 4294967295 ^^^ crcN (4294967295 ^^^ s) l) := rfl
 generalize 4294967295 ^^^ s = x0 at hnot hx0 HEX
 have HX0 := hid hx0
 have HR := hid h
 clear hx0 h hs
 go_enter Tryz.func110, Tryz.ntmps110
 go_wp2_with (first
  | (go_at_call 165; refine (sums_any _).mono ?_; rintro e w1 ⟨rfl, hb1⟩; have HB1 := hid hb1; clear hb1)
  | ((with_reducible refine at_op ⟨_, .store 283 (.tmp 6) (.tmp 11), _, _, _, _⟩ ?_); refine wpList_store_blk rfl 283 (.tmp 6) (.tmp 11) rfl w1.heap.size 0 rfl (tabL 16) rfl (by decide) 283 _ (Blk.new w1 _ _) (by simp [tabL_length]) (by kernel_rfl) ?_; intro w2 hT2 hg2 hs2; rw [put_all _ _ (by simp [tabL_length])] at hT2; have HT2 := hid hT2; have HG2 : Hid (Below w1.heap.size w1 w2) := hid (below_gb ((Below.refl _ _).alloc (Nat.le_refl _) _) hg2 (by simp) (Nat.le_refl _)); clear hT2 hg2 hs2)
  | fail)
 have HB2 : Hid (Below w.heap.size w w2) := HB1.out.trans (HG2.out.mono HB1.out.size)
 have HR2 := hid (HR.out.below HB2.out)
 clear hnot
 go_loop [5, 14] (fun x i => ∃ k : Nat, k <= l.length /\ i = .int .i64 (k : Int) /\ x = .int .u32 (crcN x0 (l.take k) : Nat)) (fun _ i => l.length - (intOf i).toNat)
 case atStart => exact ⟨0, Nat.zero_le _, rfl, rfl⟩
 case round =>
  obtain ⟨k, hk, rfl, rfl⟩ := hrel
  have hxl : crcN x0 (l.take k) < 4294967296 := crcN_lt HX0.out _
  by_cases hlt : k < l.length
  ·obtain ⟨b, off, rfl, hbl, hcell⟩ := HR2.out (by omega)
   have c0 := hcell k hlt
   have hc256 : l[k].toNat < 256 := l[k].toNat_lt
   have HN : Hid (crcN x0 (l.take (k + 1)) = crcRound (crcN x0 (l.take k)) l[k].toNat) := hid (by rw [take_snoc8 l k hlt, crcN_snoc])
   clear hcell hbl
   generalize l[k].toNat = ch at c0 hc256 HN
   generalize crcN x0 (l.take k) = x at hxl HN ⊢
   have e1 := e_xor x ch hxl hc256
   have hy : x ^^^ ch < 4294967296 := xor_lt hxl (by omega)
   have HN1 : Hid (crcN x0 (l.take (k + 1)) = tabN ((tabN ((x ^^^ ch) % 16) ^^^ ((x ^^^ ch) / 16)) % 16) ^^^ ((tabN ((x ^^^ ch) % 16) ^^^ ((x ^^^ ch) / 16)) / 16)) := HN.out
   clear HN
   generalize x ^^^ ch = y at e1 hy HN1
   have e2 := e_and y hy
   have hk1 : y % 16 < 16 := by omega
   have t1 := tabN_lt hk1
   have e3 := e_mix (tabN (y % 16)) y t1 hy
   have hz : tabN (y % 16) ^^^ (y / 16) < 4294967296 := xor_lt t1 (by omega)
   have c1 : w2.cell? ⟨w1.heap.size, y % 16, none⟩ = some (.int .u32 (tabN (y % 16) : Nat)) := by rw [HT2.out.cell, List.getElem?_toArray, tabL_at _ _ hk1, if_pos hk1]
   generalize tabN (y % 16) ^^^ (y / 16) = z at e3 hz HN1
   generalize tabN (y % 16) = ty at e3 c1 t1
   generalize y % 16 = ky at e2 c1 hk1
   have e4 := e_and z hz
   have hk2 : z % 16 < 16 := by omega
   have t2 := tabN_lt hk2
   have e5 := e_mix (tabN (z % 16)) z t2 hz
   have c2 : w2.cell? ⟨w1.heap.size, z % 16, none⟩ = some (.int .u32 (tabN (z % 16) : Nat)) := by rw [HT2.out.cell, List.getElem?_toArray, tabL_at _ _ hk2, if_pos hk2]
   generalize tabN (z % 16) ^^^ (z / 16) = x' at e5 HN1
   generalize tabN (z % 16) = tz at e5 c2 t2
   generalize z % 16 = kz at e4 c2 hk2
   go_wp2_with fail
   go_round
   case rel => exact ⟨k + 1, by omega, by go_num, by rw [HN1.out]⟩
   case measure => simp [intOf]; omega
  ·obtain rfl : k = l.length := by omega
   rw [List.take_length] at hxl ⊢
   have e6 := e_not _ hxl
   rw [<- HEX.out] at e6
   go_wp2_with fail
   go_ret
   exact ⟨rfl, HB2.out⟩
theorem sum_any (l : List UInt8) (hl : l.length <= 9223372036854775807) (A : Option Addr) (c : Nat) (w : World) (h : RB w A l) : Calls Tryz.prog 78 #[.slice A l.length c] w fun e w' => e = .returned (.int .u32 (extN 0 l : Nat)) /\ Below w.heap.size w w' := by
 have hE := extend_any 0 (by decide) l hl A c w h
 go_enter Tryz.func78, Tryz.ntmps78
 have HE := hid hE
 clear hE h
 go_wp2_with (go_at_call 110; refine HE.out.mono ?_; rintro e w1 ⟨rfl, hb1⟩)
 go_ret
 exact ⟨rfl, hb1⟩
end Go.Proofs.YtendlmdmbkcdnaaGreatDoor.oc
namespace Go.Proofs.YtendlmdmbkcdnaaGreatDoor
open Go.RowKit
theorem block_of_add (a : Addr) (n : Nat) : (a.add n).block = a.block := by unfold Addr.add; split <;> rfl
theorem add_of_add (a : Addr) (i j : Nat) : (a.add i).add j = a.add (i + j) := by
 unfold Addr.add
 by_cases hi : i = 0 <;> by_cases hj : j = 0 <;> simp [hi, hj, Nat.add_assoc]
def Reads (w : World) (B size : Nat) (A : Option Addr) (n : Nat) (xs : List Value) : Prop :=
 xs.length = n * size /\ (0 < n -> ∃ ad, A = some ad /\ ad.block < B /\ ∀ j u, xs[j]? = some u -> w.cell? (ad.add j) = some u)
section
variable {w w' : World} {B B' size n : Nat} {A : Option Addr} {xs : List Value}
theorem Reads.none_ : Reads w B size A 0 [] := ⟨by simp, fun h => absurd h (by omega)⟩
theorem Reads.at_ {k : Nat} (h : Reads w B 1 A n xs) (hk : k < n) : ∃ ad u, A = some ad /\ ad.block < B /\ xs[k]? = some u /\ w.cell? (ad.add k) = some u := by
 obtain ⟨ad, e, hb, hc⟩ := h.2 (by omega)
 have hl : k < xs.length := by have := h.1; omega
 exact ⟨ad, xs[k], e, hb, List.getElem?_eq_getElem hl, hc k _ (List.getElem?_eq_getElem hl)⟩
theorem Reads.keep (h : Reads w B size A n xs) (hk : ∀ p : Addr, p.block < B -> w'.cell? p = w.cell? p) : Reads w' B size A n xs :=
 ⟨h.1, fun hn => by
  obtain ⟨ad, e, hb, hc⟩ := h.2 hn
  exact ⟨ad, e, hb, fun j u hu => (hk _ (by rw [block_of_add]; exact hb)).trans (hc j u hu)⟩⟩
theorem Reads.more (h : Reads w B size A n xs) (hB : B <= B') : Reads w B' size A n xs :=
 ⟨h.1, fun hn => by
  obtain ⟨ad, e, hb, hc⟩ := h.2 hn
  exact ⟨ad, e, by omega, hc⟩⟩
theorem Reads.below (h : Reads w B size A n xs) (hb : Below B w w') : Reads w' B size A n xs := h.keep fun _ hp => hb.cell hp
theorem Reads.drew (h : Reads w B size A n xs) : Reads w.drew B size A n xs := h
theorem Reads.drewN (h : Reads w B size A n xs) (k : Nat) : Reads (w.drewN k) B size A n xs := h
theorem Reads.alloc (h : Reads w B size A n xs) (hB : B <= w.heap.size) (o : Obj) : Reads (w.alloc o) B size A n xs := h.keep fun p hp => World.cell?_alloc_lt w o p (by omega)
theorem Reads.setCell (h : Reads w B size A n xs) {p : Addr} (hB : B <= p.block) (u : Value) : Reads (w.setCell p u) B size A n xs :=
 h.keep fun q hq => World.cell?_setCell_other w p q u (fun e => by subst e; omega)
theorem Reads.grown (h : Reads w B size A n xs) {row : Option Nat} (hg : w.grownBy w' row) (hB : B <= w.heap.size) (hr : ∀ g, row = some g -> B <= g) : Reads w' B size A n xs :=
 h.keep fun p hp => World.cell?_of_block (hg.block p.block (by omega) (fun e => by have := hr _ e.symm; omega))
theorem Reads.cut (h : Reads w B size A n xs) {k cap : Nat} (hk : k <= n) (hc : n <= cap) :
  Reads w B size (if cap = k then A else A.map (·.add (k * size))) (n - k) (xs.drop (k * size)) := by
 refine ⟨by rw [List.length_drop, h.1, Nat.sub_mul], fun hn => ?_⟩
 obtain ⟨ad, rfl, hb, hcell⟩ := h.2 (by omega)
 rw [if_neg (by omega)]
 refine ⟨ad.add (k * size), rfl, by rw [block_of_add]; exact hb, fun j u hu => ?_⟩
 rw [add_of_add]
 exact hcell _ u (by rw [<- hu, List.getElem?_drop])
theorem Reads.of_own {base : Nat} {e : TypeId} {c : Nat} (h : w.ownsRow base e size (.slice A n c) n xs) : Reads w w.heap.size size A n xs := by
 refine ⟨h.1, fun hn => ?_⟩
 obtain ⟨g, cap, hv, _, hlt⟩ := h.form hn
 have hA : A = some ⟨g, 0, none⟩ := by injection hv
 subst hA
 exact ⟨_, rfl, hlt, h.cells (g := g) rfl⟩
end
section
variable {P : Program} (w : World)
theorem run_append_of_nil (base : Nat) (t ty e : TypeId) (i : TypeInfo) (size : Nat) (ht : P.underlying t = some (.slice e)) (hi : P.info? e = some i)
  (v : Value) (n : Nat) (xs : List Value) (hown : w.ownsRow base e size v n xs) (c : Nat) : (Builtin.append_ #[t, t] ty #[v, .slice none 0 c]).run P w = .ok v w := by
 rcases hown.2 with ⟨rfl, rfl⟩ | ⟨g, cap, cur, rfl, _, _, hnc, _⟩
 ·simp [Builtin.append_, run_underlying ht, sizeOf, typeInfo, hi, Builtin.lenOf, Builtin.firstCells]
 ·simp [Builtin.append_, run_underlying ht, sizeOf, typeInfo, hi, Builtin.lenOf, Builtin.firstCells, hnc, storeCells]
theorem run_append_any (base : Nat) (t ty e : TypeId) (i : TypeInfo) (z : Value) (size bytes : Nat) (ht : P.underlying t = some (.slice e)) (hi : P.info? e = some i) (hz : i.zero = some z)
  (hsize : i.size = size) (hby : i.bytes = bytes) (hzs : z.cells.size = size) (hsz : 0 < size)
  (v : Value) (n : Nat) (xs : List Value) (hown : w.ownsRow base e size v n xs)
  (B : Nat) (A : Option Addr) (m c : Nat) (news : List Value) (hr : Reads w B size A m news) (h1 : ∀ u ∈ news, u.oneCell' = true)
  (h63 : n + m <= maxLen) (hbytes : (n + m) * bytes <= 140737488355328) (hbase : base <= w.heap.size) :
  ∃ v' w', (Builtin.append_ #[t, t] ty #[v, .slice A m c]).run P w = .ok v' w' /\ w'.ownsRow base e size v' (n + m) (xs ++ news) /\ w.grownBy w' v.ownBlock /\
   (v'.ownBlock = v.ownBlock \/ v'.ownBlock = some w.heap.size) := by
 rcases A with _ | ad
 ·have hm : m = 0 := by
   rcases Nat.eq_zero_or_pos m with h0 | h0
   ·exact h0
   ·obtain ⟨ad, h, _⟩ := hr.2 h0
    cases h
  subst hm
  have hn : news = [] := List.eq_nil_of_length_eq_zero (by simpa using hr.1)
  subst hn
  exact ⟨v, w, run_append_of_nil w base t ty e i size ht hi v n xs hown c, by simpa using hown, World.grownBy.refl w _, .inl rfl⟩
 ·have hcells : ∀ j u, news[j]? = some u -> w.cell? (ad.add j) = some u := by
   intro j u hu
   rcases Nat.eq_zero_or_pos m with h0 | h0
   ·subst h0
    have hn : news = [] := List.eq_nil_of_length_eq_zero (by simpa using hr.1)
    subst hn
    simp at hu
   ·obtain ⟨ad', h, _, hc⟩ := hr.2 h0
    injection h with h
    subst h
    exact hc j u hu
  obtain ⟨v', w', hrun, h2, h3, _, h5⟩ := run_append_own_at (P := P) w base t ty e i z size bytes ht hi hz hsize hby hzs hsz v n xs hown ad m c news hr.1 hcells h1 h63 hbytes hbase
  exact ⟨v', w', hrun, h2, h3, h5⟩
theorem wp_append_any {o : Oper} {a : Act} {K : Act -> World -> Prop} {Q : Exit -> Act -> World -> Prop} (s x : Operand) (t : TypeId)
  (ho : o.op = .call { callee := .builtin .append, args := #[s, x], argTypes := #[t, t] })
  (base : Nat) (e : TypeId) (i : TypeInfo) (z : Value) (size bytes : Nat) (ht : P.underlying t = some (.slice e)) (hi : P.info? e = some i) (hz : i.zero = some z)
  (hsize : i.size = size) (hby : i.bytes = bytes) (hzs : z.cells.size = size) (hsz : 0 < size)
  (v : Value) (n : Nat) (xs : List Value) (hs : a.eval s = v) (hown : w.ownsRow base e size v n xs)
  (B : Nat) (A : Option Addr) (m c : Nat) (news : List Value) (hx : a.eval x = .slice A m c) (hr : Reads w B size A m news) (h1 : ∀ u ∈ news, u.oneCell' = true)
  (h63 : n + m <= maxLen) (hbytes : (n + m) * bytes <= 140737488355328) (hbase : base <= w.heap.size)
  (h : ∀ v' w', w'.ownsRow base e size v' (n + m) (xs ++ news) -> w.grownBy w' v.ownBlock -> (v'.ownBlock = v.ownBlock \/ v'.ownBlock = some w.heap.size) -> K (a.put o.dst v') w') : o.wp P a w K Q := by
 obtain ⟨v', w', hrun, h2, h3, h4⟩ := run_append_any (P := P) w base t o.type e i z size bytes ht hi hz hsize hby hzs hsz v n xs hown B A m c news hr h1 h63 hbytes hbase
 unfold Oper.wp execOp
 simp only [ho, resolve, invoke, builtin, Sem.run_bind, Sem.run_pure, Result.andThen_ok, List.map_toArray, List.map_cons, List.map_nil, hs, hx, hrun]
 exact h v' w' h2 h3 h4
theorem wpList_append_any {ops : Array Oper} {rest : List Oper} {o : Oper} {a : Act} {Q : Exit -> Act -> World -> Prop} (hgd : o.guard = none) (s x : Operand) (t : TypeId)
  (ho : o.op = .call { callee := .builtin .append, args := #[s, x], argTypes := #[t, t] })
  (base : Nat) (e : TypeId) (i : TypeInfo) (z : Value) (size bytes : Nat) (ht : P.underlying t = some (.slice e)) (hi : P.info? e = some i) (hz : i.zero = some z)
  (hsize : i.size = size) (hby : i.bytes = bytes) (hzs : z.cells.size = size) (hsz : 0 < size)
  (v : Value) (n : Nat) (xs : List Value) (hs : a.eval s = v) (hown : w.ownsRow base e size v n xs)
  (B : Nat) (A : Option Addr) (m c : Nat) (news : List Value) (hx : a.eval x = .slice A m c) (hr : Reads w B size A m news) (h1 : ∀ u ∈ news, u.oneCell' = true)
  (h63 : n + m <= maxLen) (hbytes : (n + m) * bytes <= 140737488355328) (hbase : base <= w.heap.size)
  (h : ∀ v' w', w'.ownsRow base e size v' (n + m) (xs ++ news) -> w.grownBy w' v.ownBlock -> (v'.ownBlock = v.ownBlock \/ v'.ownBlock = some w.heap.size) -> wpList P ops Q rest (a.put o.dst v') w') : wpList P ops Q (o :: rest) a w :=
 wpList_plain hgd fun _ hK => wp_append_any w s x t ho base e i z size bytes ht hi hz hsize hby hzs hsz v n xs hs hown B A m c news hx hr h1 h63 hbytes hbase fun v' w' h2 h3 h4 => hK _ _ (h v' w' h2 h3 h4)
end
end Go.Proofs.YtendlmdmbkcdnaaGreatDoor
namespace Go.Proofs.YtendlmdmbkcdnaaGreatDoor.oc
open Go.RowKit
open Go.Lib (hid)
set_option maxRecDepth 100000
def bc (l : List UInt8) : List Value := l.map fun b => Value.int .u8 (b.toNat : Int)
theorem bc_length (l : List UInt8) : (bc l).length = l.length := by simp [bc]
theorem bc_append (a b : List UInt8) : bc (a ++ b) = bc a ++ bc b := by simp [bc]
theorem bc_one (l : List UInt8) : ∀ u ∈ bc l, u.oneCell' = true := by
 intro u hu
 obtain ⟨b, _, rfl⟩ := List.mem_map.1 hu
 rfl
theorem bc_at (l : List UInt8) (j : Nat) (h : j < l.length) : (bc l)[j]? = some (.int .u8 (l[j].toNat : Int)) := by simp [bc, h]
theorem RB.reads {w : World} {A : Option Addr} {l : List UInt8} (h : RB w A l) : Reads w w.heap.size 1 A l.length (bc l) := by
 refine ⟨by rw [bc_length, Nat.mul_one], fun h0 => ?_⟩
 obtain ⟨b, off, e, hb, hc⟩ := h h0
 refine ⟨_, e, hb, fun j u hu => ?_⟩
 have hj : j < l.length := by
  have := (List.getElem?_eq_some_iff.1 hu).1
  rwa [bc_length] at this
 rw [bc_at l j hj] at hu
 rw [add_flat, hc j hj]
 exact hu
theorem RB.of_own {w : World} {B n c : Nat} {A : Option Addr} {l : List UInt8} (h : w.ownsRow B 5 1 (.slice A n c) n (bc l)) : RB w A l := by
 intro h0
 have hl := h.1
 rw [bc_length, Nat.mul_one] at hl
 have hlt := h.lt
 have hcl := fun g hg => h.cells (g := g) hg
 rcases h.2 with ⟨_, h0'⟩ | ⟨g, cap, cur, hv, hg, _⟩
 ·omega
 ·injection hv with h1
  subst h1
  refine ⟨g, 0, rfl, (hlt g rfl).2, fun j hj => ?_⟩
  have := hcl g rfl j _ (bc_at l j hj)
  rwa [add_flat] at this
theorem infoB : (Tryz.prog.info? 5).map (fun i => (i.zero, i.size, i.bytes)) = some (some (.int .u8 0), 1, 1) := by kernel_rfl
theorem own_ne {w : World} {B g n z : Nat} {e t : TypeId} {v : Value} {xs : List Value} {cs : Array Value} (h : w.ownsRow B e z v n xs) (hg : Blk w g t cs) (hne : e ≠ t) : v.ownBlock ≠ some g := by
 rcases h.2 with ⟨rfl, _⟩ | ⟨g', cap, cur, rfl, _, hh, _⟩
 ·simp [Value.ownBlock]
 ·intro he
  have : g' = g := by simpa [Value.ownBlock] using he
  subst this
  unfold Blk at hg
  rw [hh] at hg
  injection hg with hg
  injection hg with _ ht
  exact hne ht
theorem own_slice {w : World} {B n z : Nat} {e : TypeId} {v : Value} {xs : List Value} (h : w.ownsRow B e z v n xs) : ∃ A c, v = .slice A n c := by
 rcases h.2 with ⟨h1, rfl⟩ | ⟨g, cap, cur, h1, _⟩
 ·exact ⟨_, _, h1⟩
 ·exact ⟨_, _, h1⟩
theorem grown_set (w : World) (g i : Nat) (u : Value) : w.grownBy (w.setCell ⟨g, i, none⟩ u) (some g) := ⟨rfl, rfl, rfl, by simp [World.setCell], fun k _ hne => Below.heap_setCell w ⟨g, i, none⟩ u k (fun e => hne (by rw [e]))⟩
theorem own_set {w : World} {B g i n z : Nat} {e : TypeId} {v : Value} {xs : List Value} (h : w.ownsRow B e z v n xs) (hne : v.ownBlock ≠ some g) (u : Value) : (w.setCell ⟨g, i, none⟩ u).ownsRow B e z v n xs := h.kept (grown_set w g i u) (Or.inr hne)
theorem own_below {w w' : World} {B n z : Nat} {e : TypeId} {v : Value} {xs : List Value} (h : w.ownsRow B e z v n xs) (hb : Below w.heap.size w w') : w'.ownsRow B e z v n xs := by
 refine ⟨h.1, ?_⟩
 rcases h.2 with h1 | ⟨g, cap, cur, h1, h2, h3, h4⟩
 ·exact Or.inl h1
 ·refine Or.inr ⟨g, cap, cur, h1, h2, ?_, h4⟩
  have hlt : g < w.heap.size := by
   rcases Nat.lt_or_ge g w.heap.size with hlt | hge
   ·exact hlt
   ·rw [Array.getElem?_eq_none hge] at h3; cases h3
  exact (hb.block g hlt).trans h3
def Wr (w : World) (B g : Nat) (l : List UInt8) : Prop := B <= g /\ ∃ v, Blk w g 289 #[v] /\ w.ownsRow B 5 1 v l.length (bc l)
theorem Wr.below {w w' : World} {B g : Nat} {l : List UInt8} (h : Wr w B g l) (hb : Below w.heap.size w w') : Wr w' B g l := by
 obtain ⟨h0, v, h1, h2⟩ := h
 exact ⟨h0, v, h1.below hb h1.lt, own_below h2 hb⟩
theorem Wr.lt {w : World} {B g : Nat} {l : List UInt8} (h : Wr w B g l) : g < w.heap.size := by
 obtain ⟨h0, v, h1, h2⟩ := h
 exact h1.lt
theorem writer_new (B : Nat) (w : World) (hB : B <= w.heap.size) : Calls Tryz.prog 113 #[] w fun e w' => e = .returned (.pointer (some ⟨w.heap.size, 0, none⟩)) /\ Wr w' B w.heap.size [] /\ Below B w w' := by
 go_enter Tryz.func113, Tryz.ntmps113
 go_wp2
 go_ret
 exact ⟨rfl, ⟨hB, .slice none 0 0, Blk.new w _ _, World.ownsRow_nil _ _ _ _⟩, (Below.refl _ _).alloc hB _⟩
set_option maxHeartbeats 1000000 in
theorem raw_any (B g : Nat) (l s : List UInt8) (hn : l.length + s.length <= 1099511627776) (A : Option Addr) (c : Nat) (w : World) (h : Wr w B g l) (hs : RB w A s) : Calls Tryz.prog 116 #[.pointer (some ⟨g, 0, none⟩), .slice A s.length c] w fun e w' => e = .returned (.tuple #[]) /\ Wr w' B g (l ++ s) /\ Below B w w' := by
 obtain ⟨i0, hi, hz0, hz1, hz2⟩ := info_parts infoB
 obtain ⟨hBg, v, hT, hO⟩ := h
 have c0 : w.cell? ⟨g, 0, none⟩ = some v := (hT.cell 0).trans rfl
 have hBw : B <= w.heap.size := Nat.le_of_lt (Nat.lt_of_le_of_lt hBg hT.lt)
 have hlim : (l.length + s.length) * 1 <= 140737488355328 := by omega
 have hmx : l.length + s.length <= maxLen := by unfold maxLen; omega
 have HT := hid hT
 have HO := hid hO
 have HS := hid hs.reads
 clear hT hO hs
 go_enter Tryz.func116, Tryz.ntmps116
 go_wp2_with (first
  | (at_builtin; go_must (refine wpList_append_any _ rfl _ _ 74 rfl B 5 i0 (.int .u8 0) 1 1 Tryz.underlying74 hi hz0 hz1 hz2 rfl (by decide) v l.length (bc l) rfl HO.out w.heap.size A s.length c (bc s) rfl HS.out (bc_one s) hmx hlim hBw ?_; intro v' w2 hown2 hgr2 _; obtain ⟨A2, k2, rfl⟩ := own_slice hown2; have HO2 := hid hown2; have HG2 := hid hgr2; have HT2 : Hid (Blk w2 g 289 #[v]) := HT.out.grown hgr2 (fun e => own_ne HO.out HT.out (by decide) e.symm); have c2 : w2.cell? ⟨g, 0, none⟩ = some v := (HT2.out.cell 0).trans rfl; have f2 := HT2.out.frozen 0; clear hown2 hgr2 c0))
  | fail)
 go_end0
 refine ⟨rfl, ⟨hBg, .slice A2 _ k2, HT2.out.set_ 0 _, ?_⟩, ?_⟩
 ·have := own_set (i := 0) HO2.out (own_ne HO2.out HT2.out (by decide)) (.slice A2 (l.length + s.length) k2)
  rwa [List.length_append, bc_append]
 ·exact ((Below.refl _ _).grown HG2.out hBw (fun k hk => (HO.out.lt k hk).1)).setCell (by exact hBg) _
theorem rb_new (w : World) (s : List UInt8) (cs : Array Value) (hcs : cs.toList = bc s) : RB (w.alloc (.cells cs 5)) (some ⟨w.heap.size, 0, none⟩) s := by
 intro _
 refine ⟨_, _, rfl, by simp, fun j hj => ?_⟩
 rw [(Blk.new w 5 cs).cell, <- Array.getElem?_toList, hcs, Nat.zero_add]
 exact bc_at s j hj
theorem byte_any (B g : Nat) (l : List UInt8) (b : UInt8) (hn : l.length + 1 <= 1099511627776) (w : World) (h : Wr w B g l) : Calls Tryz.prog 115 #[.pointer (some ⟨g, 0, none⟩), .int .u8 (b.toNat : Int)] w fun e w' => e = .returned (.tuple #[]) /\ Wr w' B g (l ++ [b]) /\ Below B w w' := by
 have hBw : B <= w.heap.size := Nat.le_of_lt (Nat.lt_of_le_of_lt h.1 h.lt)
 have HW := hid h
 clear h
 go_enter Tryz.func115, Tryz.ntmps115
 go_wp2_with fail
 refine (raw_any B g l [b] hn (some ⟨w.heap.size, 0, none⟩) 1 _ (HW.out.below ((Below.refl _ _).alloc (Nat.le_refl _) _)) (rb_new w [b] _ rfl)).mono ?_
 rintro e w1 ⟨rfl, h1, hb1⟩
 have H1 := hid h1
 have HB1 := hid hb1
 clear h1 hb1
 go_wp2_with fail
 go_end0
 exact ⟨rfl, H1.out, ((Below.refl _ _).alloc hBw _).trans HB1.out⟩
def be4 (v : Nat) : List UInt8 := [UInt8.ofNat (v / 16777216), UInt8.ofNat (v / 65536 % 256), UInt8.ofNat (v / 256 % 256), UInt8.ofNat (v % 256)]
theorem u8v {k : Nat} (h : k < 256) : Value.int .u8 ((UInt8.ofNat k).toNat : Int) = .int .u8 (k : Int) := by
 rw [UInt8.toNat_ofNat', Nat.mod_eq_of_lt h]
theorem be4_cells (v : Nat) (hv : v < 4294967296) : #[Value.int .u8 ((v : Int) / 16777216), .int .u8 ((v : Int) / 65536 % 256), .int .u8 ((v : Int) / 256 % 256), .int .u8 ((v : Int) % 256)].toList = bc (be4 v) := by
 simp only [bc, be4, List.map_cons, List.map_nil]
 rw [u8v (show v / 16777216 < 256 by omega), u8v (show v / 65536 % 256 < 256 by omega), u8v (show v / 256 % 256 < 256 by omega), u8v (show v % 256 < 256 by omega)]
 simp
theorem u32_any (B g : Nat) (l : List UInt8) (v : Nat) (hv : v < 4294967296) (hn : l.length + 4 <= 1099511627776) (w : World) (h : Wr w B g l) : Calls Tryz.prog 114 #[.pointer (some ⟨g, 0, none⟩), .int .u32 (v : Int)] w fun e w' => e = .returned (.tuple #[]) /\ Wr w' B g (l ++ be4 v) /\ Below B w w' := by
 have hBw : B <= w.heap.size := Nat.le_of_lt (Nat.lt_of_le_of_lt h.1 h.lt)
 have HW := hid h
 have HC := hid (be4_cells v hv)
 clear h
 go_enter Tryz.func114, Tryz.ntmps114
 go_wp2_with fail
 refine (raw_any B g l (be4 v) hn (some ⟨w.heap.size, 0, none⟩) 4 _ (HW.out.below ((Below.refl _ _).alloc (Nat.le_refl _) _)) (rb_new w (be4 v) _ HC.out)).mono ?_
 rintro e w1 ⟨rfl, h1, hb1⟩
 have H1 := hid h1
 have HB1 := hid hb1
 clear h1 hb1
 go_wp2_with fail
 go_end0
 exact ⟨rfl, H1.out, ((Below.refl _ _).alloc hBw _).trans HB1.out⟩
theorem own_less {w : World} {B B' : Nat} {e : TypeId} {z n : Nat} {v : Value} {xs : List Value} (h : w.ownsRow B e z v n xs) (hB : B' <= B) : w.ownsRow B' e z v n xs := by
 refine ⟨h.1, ?_⟩
 rcases h.2 with h | ⟨g, cap, cur, h1, h2, h3⟩
 ·exact Or.inl h
 ·exact Or.inr ⟨g, cap, cur, h1, Nat.le_trans hB h2, h3⟩
theorem bytes_any (B g : Nat) (l : List UInt8) (hn : l.length <= 1099511627776) (w : World) (h : Wr w B g l) (B' : Nat) (hB' : B' <= w.heap.size) : Calls Tryz.prog 117 #[.pointer (some ⟨g, 0, none⟩)] w fun e w' => ∃ A c, e = .returned (.slice A l.length c) /\ w'.ownsRow B' 5 1 (.slice A l.length c) l.length (bc l) /\ Below w.heap.size w w' := by
 obtain ⟨i0, hi, hz0, hz1, hz2⟩ := info_parts infoB
 obtain ⟨hBg, v, hT, hO⟩ := h
 obtain ⟨A, c, rfl⟩ := own_slice hO
 have c0 : w.cell? ⟨g, 0, none⟩ = some (.slice A l.length c) := (hT.cell 0).trans rfl
 have hlim : (0 + l.length) * 1 <= 140737488355328 := by omega
 have hmx : 0 + l.length <= maxLen := by unfold maxLen; omega
 have HS := hid (RB.of_own hO).reads
 clear hT hO
 go_enter Tryz.func117, Tryz.ntmps117
 go_wp2_with (first
  | (at_builtin; go_must (refine wpList_append_any _ rfl _ _ 74 rfl w.heap.size 5 i0 (.int .u8 0) 1 1 Tryz.underlying74 hi hz0 hz1 hz2 rfl (by decide) (.slice none 0 0) 0 [] rfl (World.ownsRow_nil _ _ _ _) w.heap.size A l.length c (bc l) rfl HS.out (bc_one l) hmx hlim (Nat.le_refl _) ?_; intro v' w2 hown2 hgr2 _; rw [Nat.zero_add, List.nil_append] at hown2; obtain ⟨A2, k2, rfl⟩ := own_slice hown2; have HO2 := hid hown2; have HG2 : Hid (w.grownBy w2 none) := hid hgr2; clear hown2 hgr2 c0))
  | fail)
 go_ret
 exact ⟨A2, k2, rfl, own_less HO2.out hB', (Below.refl _ _).grown HG2.out (Nat.le_refl _) (fun k hk => by cases hk)⟩
def uv : Nat -> Nat -> List UInt8
 | 0, v => [UInt8.ofNat (v % 256)]
 | n + 1, v => if 128 <= v then UInt8.ofNat (v % 128 + 128) :: uv n (v / 128) else [UInt8.ofNat (v % 256)]
theorem uv_length : ∀ n v, (uv n v).length <= n + 1
 | 0, v => by simp [uv]
 | n + 1, v => by
  unfold uv
  split
  ·have := uv_length n (v / 128)
   simp
   omega
  ·simp
theorem or128 (v : Nat) : bits .or .u8 ((v : Int) % 256) 128 = ((v % 128 + 128 : Nat) : Int) := by
 rw [show ((v : Int) % 256) = ((v % 256 : Nat) : Int) by omega]
 rw [show bits .or .u8 ((v % 256 : Nat) : Int) 128 = _ from u8_or_nat (v % 256) 128 (by omega) (by decide)]
 have h : ∀ y : Fin 256, y.val ||| 128 = y.val % 128 + 128 := by decide
 rw [h ⟨v % 256, by omega⟩]
 simp only
 omega
theorem cell_u8 (k : Nat) (h : k < 256) : [Value.int .u8 (k : Int)] = bc [UInt8.ofNat k] := by
 simp only [bc, List.map_cons, List.map_nil, u8v h]
set_option maxHeartbeats 1000000 in
theorem uvarint_any (n v : Nat) (hv : v < 128 ^ (n + 1)) (hn : n <= 100) (w : World) (B : Nat) (hB : B <= w.heap.size) : Calls Tryz.prog 209 #[.int .u64 (v : Int)] w fun e w' => ∃ A c, e = .returned (.slice A (uv n v).length c) /\ w'.ownsRow B 5 1 (.slice A (uv n v).length c) (uv n v).length (bc (uv n v)) /\ Below w.heap.size w w' := by
 obtain ⟨i0, hi, hz0, hz1, hz2⟩ := info_parts infoB
 have HV := hid hv
 clear hv
 go_enter Tryz.func209, Tryz.ntmps209
 go_wp2_with fail
 go_loopw [0, 3] (fun x b wr => ∃ (m y c : Nat) (A : Option Addr) (p : List UInt8), m <= n /\ x = .int .u64 (y : Int) /\ b = .slice A p.length c /\ Hid (y < 128 ^ (m + 1) /\ p.length + m <= n /\ uv n v = p ++ uv m y) /\ Hid (wr.ownsRow w.heap.size 5 1 (.slice A p.length c) p.length (bc p)) /\ Hid (Below w.heap.size w wr)) (fun x _ _ => (intOf x).toNat)
 case atStart => exact ⟨n, v, 0, none, [], Nat.le_refl _, rfl, rfl, hid ⟨HV.out, by simp, rfl⟩, hid (World.ownsRow_nil _ _ _ _), hid (Below.refl _ _)⟩
 case round =>
  obtain ⟨m, y, c, A, p, hm, rfl, rfl, HP, HO, HB⟩ := hrel
  obtain ⟨hP1, hP2, hP3⟩ := HP.out
  have hs1 : w.heap.size <= wr.heap.size := HB.out.size
  have HS := hid hs1
  by_cases h128 : 128 <= y
  ·cases m with
   | zero => simp at hP1; omega
   | succ m' =>
    have hy7 : y / 128 < 128 ^ (m' + 1) := by
     rw [Nat.pow_succ] at hP1
     exact Nat.div_lt_of_lt_mul (by rw [Nat.mul_comm]; exact hP1)
    have hU : uv n v = (p ++ [UInt8.ofNat (y % 128 + 128)]) ++ uv m' (y / 128) := by
     rw [hP3, uv, if_pos h128]
     simp
    have e1 := or128 y
    have hK : y % 128 + 128 < 256 := by omega
    have HQ : Hid (y / 128 < 128 ^ (m' + 1) /\ (p ++ [UInt8.ofNat (y % 128 + 128)]).length + m' <= n /\ uv n v = (p ++ [UInt8.ofNat (y % 128 + 128)]) ++ uv m' (y / 128)) := hid ⟨hy7, by simp; omega, hU⟩
    have hlim : (p.length + 1) * 1 <= 140737488355328 := by omega
    have hmx : p.length + 1 <= maxLen := by unfold maxLen; omega
    have HLM := hid hlim
    have HMX := hid hmx
    clear hP1 hP2 hP3 hy7 hU HP hlim hmx hs1
    generalize y % 128 + 128 = K at e1 hK HQ
    go_wp2_with (first
     | (at_builtin; go_must (refine wpList_append_own _ rfl _ _ 74 rfl w.heap.size 5 i0 (.int .u8 0) 1 1 Tryz.underlying74 hi hz0 hz1 hz2 rfl (by decide) _ _ _ rfl (HO.out.alloc _) ⟨wr.heap.size, 0, none⟩ 1 1 [.int .u8 (K : Int)] rfl rfl (cell_one_new _ _ _) (by simp [Value.oneCell']) HMX.out HLM.out (by simp; exact Nat.le_succ_of_le HS.out) ?_; intro v' w2 hown2 hgr2 _; obtain ⟨A2, k2, rfl⟩ := own_slice hown2; have HO2 : Hid (w2.ownsRow w.heap.size 5 1 (.slice A2 (p ++ [UInt8.ofNat K]).length k2) (p ++ [UInt8.ofNat K]).length (bc (p ++ [UInt8.ofNat K]))) := hid (by rw [bc_append, <- cell_u8 K hK, List.length_append]; exact hown2); have HB2 : Hid (Below w.heap.size w w2) := hid ((HB.out.alloc HS.out _).grown hgr2 (by simp; exact Nat.le_succ_of_le HS.out) (fun k hk => (HO.out.lt k hk).1)); clear hown2 hgr2))
     | fail)
    go_roundw
    case rel => exact ⟨m', y / 128, k2, A2, p ++ [UInt8.ofNat K], by omega, by go_num, by simp, HQ, HO2, HB2⟩
    case measure => simp [intOf]; omega
  ·have hU : uv n v = p ++ [UInt8.ofNat y] := by
    rw [hP3]
    cases m with
    | zero => rw [uv, Nat.mod_eq_of_lt (by omega)]
    | succ m' => rw [uv, if_neg h128, Nat.mod_eq_of_lt (by omega)]
   have HU := hid hU
   have hlim : (p.length + 1) * 1 <= 140737488355328 := by omega
   have hmx : p.length + 1 <= maxLen := by unfold maxLen; omega
   have HLM := hid hlim
   have HMX := hid hmx
   have hy : y < 256 := by omega
   clear hP1 hP2 hP3 hU HP hlim hmx hs1
   go_wp2_with (first
    | (at_builtin; go_must (refine wpList_append_own _ rfl _ _ 74 rfl w.heap.size 5 i0 (.int .u8 0) 1 1 Tryz.underlying74 hi hz0 hz1 hz2 rfl (by decide) _ _ _ rfl (HO.out.alloc _) ⟨wr.heap.size, 0, none⟩ 1 1 [.int .u8 (y : Int)] rfl rfl (cell_one_new _ _ _) (by simp [Value.oneCell']) HMX.out HLM.out (by simp; exact Nat.le_succ_of_le HS.out) ?_; intro v' w2 hown2 hgr2 _; obtain ⟨A2, k2, rfl⟩ := own_slice hown2; have HO2 : Hid (w2.ownsRow w.heap.size 5 1 (.slice A2 (p ++ [UInt8.ofNat y]).length k2) (p ++ [UInt8.ofNat y]).length (bc (p ++ [UInt8.ofNat y]))) := hid (by rw [bc_append, <- cell_u8 y hy, List.length_append]; exact hown2); have HB2 : Hid (Below w.heap.size w w2) := hid ((HB.out.alloc HS.out _).grown hgr2 (by simp; exact Nat.le_succ_of_le HS.out) (fun k hk => (HO.out.lt k hk).1)); clear hown2 hgr2))
    | fail)
   go_ret
   rw [HU.out]
   exact ⟨A2, k2, by simp, own_less HO2.out hB, HB2.out⟩
theorem wuv_any (B g : Nat) (l : List UInt8) (v : Nat) (hv : v < 18446744073709551616) (hn : l.length <= 1099511600000) (w : World) (h : Wr w B g l) : Calls Tryz.prog 167 #[.pointer (some ⟨g, 0, none⟩), .int .u64 (v : Int)] w fun e w' => e = .returned (.tuple #[]) /\ Wr w' B g (l ++ uv 9 v) /\ Below B w w' := by
  have hBw : B <= w.heap.size := Nat.le_of_lt (Nat.lt_of_le_of_lt h.1 h.lt)
  have hu := uvarint_any 9 v (by have : (128 : Nat) ^ (9 + 1) = 1180591620717411303424 := by decide
                                 omega) (by decide) w w.heap.size (Nat.le_refl _)
  have hul := uv_length 9 v
  have HV := hid hv
  have HU := hid hu
  have HW := hid h
  clear h hu hv
  go_enter Tryz.func167, Tryz.ntmps167
  go_wp2_with fail
  refine HU.out.mono ?_
  rintro e w1 ⟨A, c, rfl, ho, hb1⟩
  have HO := hid ho
  have HB1 := hid hb1
  clear ho hb1
  go_wp2_with fail
  refine (raw_any B g l (uv 9 v) (by omega) A c w1 (HW.out.below HB1.out) (RB.of_own HO.out)).mono ?_
  rintro e w2 ⟨rfl, h2, hb2⟩
  have H2 := hid h2
  have HB2 := hid hb2
  clear h2 hb2
  go_wp2_with fail
  go_end0
  exact ⟨rfl, H2.out, (HB1.out.mono hBw).trans HB2.out⟩
theorem rb_conv (w : World) (s : ByteArray) : RB (Lib.bytesWorld w 5 s) (some ⟨w.heap.size, 0, none⟩) s.data.toList := by
 intro _
 refine ⟨_, _, rfl, by rw [Lib.bytesWorld_size]; omega, fun j hj => ?_⟩
 rw [Nat.zero_add, Lib.bytesWorld_cell w _ s j (by simpa using hj), List.getD, List.getElem?_eq_getElem hj, Option.getD_some]
theorem conv_below (w : World) (e : TypeId) (s : ByteArray) : Below w.heap.size w (Lib.bytesWorld w e s) :=
 ⟨rfl, rfl, rfl, by rw [Lib.bytesWorld_size]; omega, fun k hk => Lib.bytesWorld_at_old w e s k hk⟩
theorem text_any (B g : Nat) (l : List UInt8) (s : ByteArray) (hs : s.size <= 1073741824) (hn : l.length <= 1073741824) (w : World) (h : Wr w B g l) : Calls Tryz.prog 168 #[.pointer (some ⟨g, 0, none⟩), .string s] w fun e w' => e = .returned (.tuple #[]) /\ Wr w' B g (l ++ uv 9 s.size ++ s.data.toList) /\ Below B w w' := by
 have hBw : B <= w.heap.size := Nat.le_of_lt (Nat.lt_of_le_of_lt h.1 h.lt)
 have HW := hid h
 have hul := uv_length 9 s.size
 have hsz : s.data.toList.length = s.size := by simp
 have HSZ := hid hsz
 clear h hsz
 go_enter Tryz.func168, Tryz.ntmps168
 go_wp2_with fail
 refine (wuv_any B g l s.size (by omega) (by omega) w HW.out).mono ?_
 rintro e w1 ⟨rfl, h1, hb1⟩
 have H1 := hid h1
 have HB1 := hid hb1
 have hcv := Lib.run_convert_string_bytes (P := Tryz.prog) w1 9 74 5 s Tryz.underlying9 Tryz.underlying74 Tryz.underlying5
 have HC := hid (rb_conv w1 s)
 have HCB := hid (conv_below w1 5 s)
 clear h1 hb1
 generalize Lib.bytesWorld w1 5 s = w2 at hcv HC HCB
 generalize grownCap w1 s.size 0 5 = cap at hcv
 go_wp2_with fail
 have hr := raw_any B g (l ++ uv 9 s.size) s.data.toList (by rw [HSZ.out, List.length_append]; omega) (some ⟨w1.heap.size, 0, none⟩) cap w2 (H1.out.below HCB.out) HC.out
 rw [HSZ.out] at hr
 refine hr.mono ?_
 clear hr hcv
 rintro e w3 ⟨rfl, h3, hb3⟩
 have H3 := hid h3
 have HB3 := hid hb3
 clear h3 hb3
 go_wp2_with fail
 go_end0
 exact ⟨rfl, H3.out, HB1.out.trans ((HCB.out.mono (Nat.le_trans hBw HB1.out.size)).trans HB3.out)⟩
end Go.Proofs.YtendlmdmbkcdnaaGreatDoor.oc
