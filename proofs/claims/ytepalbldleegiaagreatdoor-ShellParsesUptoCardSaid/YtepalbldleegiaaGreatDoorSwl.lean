/-
  Words for the program's Show: lists of texts in memory of its own, the codes' table, the line's length.
  Conditions: numbers as their types have them; the response is within the bound of the statement.
-/
import Derived.Test.YtepalbldleegiaaGreatDoorSwx
import Derived.Test.YtepalbldleegiaaGreatDoorSwj
import Derived.Test.YtepalbldleegiaaGreatDoorSqt
import Derived.Test.YtepalbldleegiaaGreatDoorShelf
import Derived.OwnWalk
import Derived.Laws.AppendOwn
import Derived.Lib.Join
namespace Go.Proofs.YtepalbldleegiaaGreatDoor.sh
open Go.RowKit
open Go.Lib (itoa decDigits byteCells)

/-- the codes' table as it was laid -/
def Cod (w : World) : Prop := 0 < w.heap.size ∧ ∀ i, i < 12 → w.cell? ⟨0, i, none⟩ = some (.string (S (codeWords.getD i [])))
theorem cod_below {w w' : World} (h : Cod w) (hb : Below w.heap.size w w') : Cod w' :=
  ⟨Nat.lt_of_lt_of_le h.1 hb.size, fun i hi => (hb.cell (p := ⟨0, i, none⟩) h.1).trans (h.2 i hi)⟩
theorem Cod.cell {w : World} (h : Cod w) {n : Int} (h0 : 0 ≤ n) (h1 : n < 12) : w.cell? ⟨0, n.toNat, none⟩ = some (.string (S (codeL n))) := by
  have := h.2 n.toNat (by omega)
  unfold codeL
  rw [if_pos ⟨h0, h1⟩]
  exact this

/-- texts as cells -/
def strV (l : List Bs) : List Value := l.map fun x => .string (S x)
theorem strV_append (a b : List Bs) : strV (a ++ b) = strV a ++ strV b := by simp [strV]
theorem strV_len (l : List Bs) : (strV l).length = l.length := by simp [strV]
theorem strV_one (l : List Bs) : ∀ u ∈ strV l, u.oneCell' = true := by
  intro u hu
  simp only [strV, List.mem_map] at hu
  obtain ⟨x, -, rfl⟩ := hu
  rfl
theorem infoStr : (Tryz.prog.info? 9).map (fun i => (i.zero, i.size, i.bytes)) = some (some (.string ⟨#[]⟩), 1, 16) := by kernel_rfl

theorem own_built (W : World) (B : Nat) (e : TypeId) (cs : Array Value) (l : List Value) (n : Nat) (hB : B ≤ W.heap.size) (hl : cs.toList = l) (hn : l.length = n) (hm : n ≤ maxLen) :
    (W.alloc (.cells cs e)).ownsRow B e 1 (.slice (some ⟨W.heap.size, 0, none⟩) n n) n l := by
  have hs : cs.size = n := by rw [← hn, ← hl, Array.length_toList]
  refine ⟨by rw [hn, Nat.mul_one], .inr ⟨W.heap.size, n, cs, rfl, hB, heap_alloc_new W _, Nat.le_refl _, hm, by rw [hs, Nat.mul_one], ?_⟩⟩
  rw [Nat.mul_one, ← hs, ← Array.length_toList, List.take_length]
  exact hl
theorem own_keep {w w' : World} {B n : Nat} {e : TypeId} {v : Value} {xs : List Value} (h : w.ownsRow B e 1 v n xs) (hb : Below w.heap.size w w') : w'.ownsRow B e 1 v n xs :=
  h.kept (grown_of_below hb) (by cases hv : v.ownBlock <;> simp)
theorem own_read {w : World} {B n : Nat} {e : TypeId} {v : Value} {xs : List Value} (h : w.ownsRow B e 1 v n xs) (hn : 0 < n) :
    ∃ g cap, v = .slice (some ⟨g, 0, none⟩) n cap ∧ B ≤ g ∧ g < w.heap.size ∧ n ≤ cap ∧ ∀ (j : Nat) (u : Value), xs[j]? = some u → w.cell? ⟨g, 0 + j, none⟩ = some u := by
  have hl := h.lt
  have hc := fun g hg => h.cells (g := g) hg
  rcases h.2 with ⟨rfl, h0⟩ | ⟨g, cap, cur, rfl, hb, hgg, hnc, -⟩
  · omega
  · refine ⟨g, cap, rfl, hb, (hl g rfl).2, hnc, fun j u hu => ?_⟩
    have := hc g rfl j u hu
    rwa [add_flat] at this

theorem le_alloc {B : Nat} {W : World} (o : Obj) (h : B ≤ W.heap.size) : B ≤ (W.alloc o).heap.size := by rw [World.size_alloc]; exact Nat.le_succ_of_le h
theorem le_maxLen {n : Nat} (h : n ≤ 140737488355328) : n ≤ maxLen := by simp only [maxLen]; omega
theorem built_cells (W : World) (e : TypeId) (cs : Array Value) (l : List Value) (h : cs.toList = l) : ∀ (j : Nat) (u : Value), l[j]? = some u → (W.alloc (.cells cs e)).cell? ((⟨W.heap.size, 0, none⟩ : Addr).add j) = some u := by
  intro j u hu
  rw [add_flat, Nat.zero_add, cell_of_row _ _ _ _ _ _ (heap_alloc_new W _), ← hu, ← h, Array.getElem?_toList]

theorem join_eq (l : List Bs) : Lib.join l [32] = joinB l := by
  cases l with
  | nil => rfl
  | cons x l =>
    rw [Lib.join_cons, joinB_cons, Lib.joinTail]
    congr 1
/-- strings.Join over texts that lie in a row -/
theorem joinS (l : List Bs) (g c : Nat) (w : World) (hcells : ∀ (j : Nat) (u : Value), (strV l)[j]? = some u → w.cell? ⟨g, 0 + j, none⟩ = some u) (hg : g < w.heap.size) (hc : l.length ≤ c) (hN : l.length ≤ 140737488355328) (hlen : (joinB l).length ≤ 140737488355328) :
    Calls Tryz.prog 23 #[.slice (some ⟨g, 0, none⟩) l.length c, .string ⟨#[32]⟩] w fun e w' => e = .returned (.string (S (joinB l))) ∧ Below w.heap.size w w' := by
  have hm : (l.map S).map (fun x : ByteArray => x.data.toList) = l := by
    rw [List.map_map]
    conv => rhs; rw [← List.map_id l]
    exact List.map_congr_left fun x _ => by simp [S]
  have h := Tryz.strings_Join g 0 c (l.map S) ⟨#[32]⟩ w (fun j x hx => hcells j _ (by
    rw [List.getElem?_map] at hx
    obtain ⟨y, hy, rfl⟩ := Option.map_eq_some_iff.1 hx
    simp [strV, hy])) hg (by rw [List.length_map]; exact hN) (by rw [List.length_map]; exact hc) (by rw [hm]; exact (join_eq l) ▸ hlen)
  rw [List.length_map, hm] at h
  refine h.mono ?_
  rintro e w' ⟨rfl, hb⟩
  exact ⟨ret_str (by show (⟨(Lib.join l [32]).toArray⟩ : ByteArray) = _; rw [join_eq]; rfl), hb⟩

def nmP (x : Bs) : List Bs := [nameW, textL x]
theorem nmP_len (l : List Bs) : (l.flatMap nmP).length = 2 * l.length := by
  induction l with
  | nil => rfl
  | cons x l ih => simp only [List.flatMap_cons, List.length_append, ih, nmP, List.length_cons, List.length_nil]; omega
theorem rpP_len (l : List Rec) : (l.flatMap recParts).length = 7 * l.length := by
  induction l with
  | nil => rfl
  | cons x l ih => simp only [List.flatMap_cons, List.length_append, ih, recParts, List.length_cons, List.length_nil]; omega
theorem show_len (r : Rsp Rec) (hid : 0 ≤ r.id ∧ r.id < 4294967296) (hop : I64 r.op) (hco : I64 r.code) (hof : I64 r.off) (hnu : I64 r.num) (hN : lenN r.names ≤ 2147483647) (hrk : ∀ x ∈ r.recs, x.ok) (hR : lenR r.recs ≤ 2147483647) : (showL r).length ≤ 140737488355328 := by
  rw [show_eq]
  have l1 : (itoa r.id).length ≤ 21 := itoa_len (by omega) (by omega)
  have l2 := op_len hop.1 hop.2
  have l3 := code_len hco.1 hco.2
  have l4 := itoa_len hof.1 hof.2
  have l5 := itoa_len hnu.1 hnu.2
  have l6 : (moreL r.more).length ≤ 4 := by cases r.more <;> decide
  have l7 := nm_len r.names
  have l8 := rp_len r.recs hrk
  simp only [List.length_append, List.length_cons]
  omega
end Go.Proofs.YtepalbldleegiaaGreatDoor.sh
