/-
  Words for Show: names and records in memory, lengths, the line's parts.
  Conditions: numbers as their types have them; the response is within the bound of the statement.
-/
import Derived.Test.YtepalbldleegiaaGreatDoorSwd
import Derived.Test.YtepalbldleegiaaGreatDoorMem
import Derived.Lib.QuietBelow
import Derived.Deep.DeepCutAuto
namespace Go.Proofs.YtepalbldleegiaaGreatDoor.sh
open Go.RowKit
open Go.Lib (itoa decDigits)

def I64 (x : Int) : Prop := -9223372036854775808 ≤ x ∧ x ≤ 9223372036854775807
/-- a record's cells -/
def recL (r : Rec) : List Value := [.int .i64 r.kind, .int .i64 r.off, .int .i64 r.time, .int .i64 r.pid, .int .i64 r.seq, .string (S r.key), .string (S r.val)]
/-- a response's value: A, c: where its records lie; D, d: where its names lie -/
def rspV (r : Rsp Rec) (A : Option Addr) (c : Nat) (D : Option Addr) (d : Nat) : Value :=
  .agg #[.int .u32 r.id, .int .i64 r.op, .int .i64 r.code, .int .i64 r.off, .int .i64 r.num, .bool r.more, .slice A r.recs.length c, .slice D r.names.length d]
def nm (x : Bs) : Bs := 32 :: 110 :: 97 :: 109 :: 101 :: 32 :: textL x
def lenN (l : List Bs) : Nat := (l.map fun x => 1 + x.length).sum
theorem text_len (x : Bs) : (textL x).length ≤ 2 + 4 * x.length := by
  unfold textL
  split
  · omega
  · have := esc_len x
    simp only [List.length_cons, List.length_append, List.length_nil]; omega
theorem nm_len (l : List Bs) : (l.flatMap nm).length ≤ 8 * lenN l := by
  induction l with
  | nil => simp [lenN]
  | cons x l ih =>
    have := text_len x
    simp only [List.flatMap_cons, List.length_append, nm, List.length_cons, lenN, List.map_cons, List.sum_cons] at ih ⊢
    omega
theorem lenN_append (a b : List Bs) : lenN (a ++ b) = lenN a + lenN b := by simp [lenN]
theorem lenN_take (l : List Bs) (j : Nat) : lenN (l.take j) ≤ lenN l := by
  have := lenN_append (l.take j) (l.drop j)
  rw [List.take_append_drop] at this
  omega
theorem lenN_mem {l : List Bs} {x : Bs} (h : x ∈ l) : 1 + x.length ≤ lenN l := by
  induction l with
  | nil => cases h
  | cons y l ih =>
    simp only [lenN, List.map_cons, List.sum_cons] at ih ⊢
    rcases List.mem_cons.1 h with rfl | h
    · omega
    · have := ih h; omega
theorem lenN_ge (l : List Bs) : l.length ≤ lenN l := by
  induction l with
  | nil => simp
  | cons y l ih => simp only [lenN, List.map_cons, List.sum_cons, List.length_cons] at ih ⊢; omega
/-- a row of texts -/
def NamesAt (w : World) (B : Nat) (D : Option Addr) (l : List Bs) : Prop :=
  l ≠ [] → ∃ b off, D = some ⟨b, off, none⟩ ∧ b < B ∧ ∀ (i : Nat) (x : Bs), l[i]? = some x → w.cell? ⟨b, off + i, none⟩ = some (.string (S x))
def rp (r : Rec) : Bs := (recParts r).flatMap (fun q => 32 :: q)
def lenR (l : List Rec) : Nat := (l.map fun x => 1 + x.key.length + x.val.length).sum
def Rec.ok (r : Rec) : Prop := I64 r.kind ∧ I64 r.off ∧ I64 r.time ∧ I64 r.pid ∧ I64 r.seq
theorem kind_len {n : Int} (h : I64 n) : (kindL n).length ≤ 25 := by
  unfold kindL
  split
  · decide
  · split
    · decide
    · have := itoa_len h.1 h.2
      simp only [List.length_cons]; omega
theorem rp_len1 (r : Rec) (h : r.ok) : (rp r).length ≤ 130 * (1 + r.key.length + r.val.length) := by
  have h1 := kind_len h.1
  have h2 := itoa_len h.2.1.1 h.2.1.2
  have h3 := itoa_len h.2.2.1.1 h.2.2.1.2
  have h4 := itoa_len h.2.2.2.1.1 h.2.2.2.1.2
  have h5 := itoa_len h.2.2.2.2.1 h.2.2.2.2.2
  have h6 := text_len r.key
  have h7 := text_len r.val
  simp only [rp, recParts, List.flatMap_cons, List.flatMap_nil, List.length_append, List.length_cons, List.length_nil]
  omega
theorem rp_len (l : List Rec) (h : ∀ r ∈ l, r.ok) : (l.flatMap rp).length ≤ 130 * lenR l := by
  induction l with
  | nil => simp [lenR]
  | cons x l ih =>
    have h1 := rp_len1 x (h x List.mem_cons_self)
    have h2 := ih fun r hr => h r (List.mem_cons_of_mem _ hr)
    simp only [List.flatMap_cons, List.length_append, lenR, List.map_cons, List.sum_cons] at h2 ⊢
    omega
theorem lenR_append (a b : List Rec) : lenR (a ++ b) = lenR a + lenR b := by simp [lenR]
theorem lenR_take (l : List Rec) (j : Nat) : lenR (l.take j) ≤ lenR l := by
  have := lenR_append (l.take j) (l.drop j)
  rw [List.take_append_drop] at this
  omega
theorem lenR_mem {l : List Rec} {x : Rec} (h : x ∈ l) : 1 + x.key.length + x.val.length ≤ lenR l := by
  induction l with
  | nil => cases h
  | cons y l ih =>
    simp only [lenR, List.map_cons, List.sum_cons] at ih ⊢
    rcases List.mem_cons.1 h with rfl | h
    · omega
    · have := ih h; omega
theorem lenR_ge (l : List Rec) : l.length ≤ lenR l := by
  induction l with
  | nil => simp
  | cons y l ih => simp only [lenR, List.map_cons, List.sum_cons, List.length_cons] at ih ⊢; omega
/-- a row of records -/
def RecsAt (w : World) (B : Nat) (A : Option Addr) (l : List Rec) : Prop :=
  l ≠ [] → ∃ b off, A = some ⟨b, off, none⟩ ∧ b < B ∧ ∀ (i : Nat) (r : Rec), l[i]? = some r → ∀ (j : Nat) (v : Value), (recL r)[j]? = some v → w.cell? ⟨b, off + i * 7 + j, none⟩ = some v
theorem show_eq (r : Rsp Rec) : showL r = itoa r.id ++ 32 :: (opL r.op ++ 32 :: (codeL r.code ++ 32 :: (itoa r.off ++ 32 :: (itoa r.num ++ 32 :: (moreL r.more ++ (r.names.flatMap nm ++ r.recs.flatMap rp)))))) := by
  have hn : ∀ l : List Bs, (l.flatMap fun n => [nameW, textL n]).flatMap (fun q => 32 :: q) = l.flatMap nm := by
    intro l
    induction l with
    | nil => rfl
    | cons x l ih => simp only [List.flatMap_cons, List.flatMap_append, ih, List.flatMap_nil]; simp [nm, nameW]
  have hr : ∀ l : List Rec, (l.flatMap recParts).flatMap (fun q => 32 :: q) = l.flatMap rp := by
    intro l
    induction l with
    | nil => rfl
    | cons x l ih => simp only [List.flatMap_cons, List.flatMap_append, ih]; rfl
  unfold showL showParts headParts
  rw [List.cons_append, joinB_cons]
  simp only [List.cons_append, List.nil_append, List.flatMap_cons, List.flatMap_append, hn, hr]
theorem recL_one (r : Rec) : ∀ u ∈ recL r, u.oneCell' = true := by
  intro u hu
  simp only [recL, List.mem_cons, List.not_mem_nil, or_false] at hu
  rcases hu with rfl | rfl | rfl | rfl | rfl | rfl | rfl <;> rfl
def rec0 : Array Value := #[.int .i64 0, .int .i64 0, .int .i64 0, .int .i64 0, .int .i64 0, .string ByteArray.empty, .string ByteArray.empty]
theorem put_rec (r : Rec) : ∀ (j : Nat) (v : Value), (recL r)[j]? = some v → (putFrom rec0 0 (recL r))[j]? = some v := fun j v hv => by
  have := putFrom_in (recL r) rec0 0 j (List.getElem?_eq_some_iff.1 hv).1 (Nat.le_refl _)
  rw [Nat.zero_add] at this
  rw [this, hv]
theorem op_len {n : Int} (h0 : -9223372036854775808 ≤ n) (h1 : n ≤ 9223372036854775807) : (opL n).length ≤ 23 := by
  unfold opL
  split
  · rename_i h
    have h2 : ∀ i : Fin 15, (opWords.getD i.val []).length ≤ 23 := by decide
    exact h2 ⟨n.toNat - 1, by omega⟩
  · split
    · decide
    · have := itoa_len h0 h1
      simp only [List.length_cons]; omega
theorem code_len {n : Int} (h0 : -9223372036854775808 ≤ n) (h1 : n ≤ 9223372036854775807) : (codeL n).length ≤ 25 := by
  unfold codeL
  split
  · rename_i h
    have h2 : ∀ i : Fin 12, (codeWords.getD i.val []).length ≤ 25 := by decide
    exact h2 ⟨n.toNat, by omega⟩
  · have := itoa_len h0 h1
    simp only [List.length_cons]; omega
end Go.Proofs.YtepalbldleegiaaGreatDoor.sh
