/-
  Compact's answer, the program's and the document's, are one; the map of the last offsets as a datum.
  Conditions: none.
-/
import Derived.Test.YtjlfpcgopenkmaaCpb
import Derived.Maps.Own
import Derived.Maps.Views
namespace Go.Proofs.Ytjlfpcgopenkmaa.cp
open Go.RowKit Go.Maps

def minH (h : Int) : Int := if h > 1099511627776 then 1099511627776 else h
def compP (a b : List Rc) (now hor : Int) : List Rc × Int × Int :=
  if riseP (-1) (a ++ b) = false then ([], 0, 51)
  else if now < 0 ∨ hor < 0 then ([], 0, 3)
  else ((keepP (a ++ b) now (minH hor) [] 0 a).1, (keepP (a ++ b) now (minH hor) [] 0 a).2, 0)
def compR (a b : List Rc) (now hor : Int) : List Rc × Int × Int :=
  if ((riseR 0 true a).2 && (riseR (riseR 0 true a).1 (decide (a.length = 0)) b).2) = false then ([], 0, 51)
  else if now < 0 ∨ hor < 0 then ([], 0, 3)
  else ((keepR b now (minH hor) [] 0 a).1, (keepR b now (minH hor) [] 0 a).2, 0)
theorem comp_same (a b : List Rc) (now hor : Int) : compP a b now hor = compR a b now hor := by
  unfold compP compR
  rw [← rise_same]
  by_cases h : riseP (-1) (a ++ b) = false
  · rw [if_pos h, if_pos h]
  · rw [if_neg h, if_neg h]
    have ht : riseP (-1) (a ++ b) = true := by simpa using h
    have hk := keep_same b now (minH hor) a [] [] 0 (by simpa using ht) (fun r hr => by
      have := riseP_gt _ _ ht r (List.mem_append_left _ hr); omega)
    simp only [List.nil_append] at hk
    rw [hk]

/-- the map of the last offsets -/
def mapD {H : Type} : List Rc → DataW H → DataW H
  | [], D => D
  | r :: l, D => mapD l (D.put (.string r.key.data.toList) (.lit (.int .i64 r.off)))
theorem mapD_snoc {H : Type} (l : List Rc) (r : Rc) : ∀ D : DataW H, mapD (l ++ [r]) D = (mapD l D).put (.string r.key.data.toList) (.lit (.int .i64 r.off)) := by
  induction l with
  | nil => intro D; rfl
  | cons s l ih => intro D; exact ih _
theorem mapD_isMap {H : Type} (l : List Rc) : ∀ D : DataW H, IsMap D → IsMap (mapD l D) := by
  induction l with
  | nil => intro D h; exact h
  | cons s l ih => intro D h; exact ih _ (h.put _ _)
theorem lastOff_snoc (k : List UInt8) (l : List Rc) (r : Rc) : lastOff k (l ++ [r]) = if r.key.data.toList = k then some r.off else lastOff k l := by
  rw [lastOff_append]
  by_cases h : r.key.data.toList = k
  · subst h; simp [lastOff]
  · rw [if_neg h]; simp [lastOff, h]
theorem mapD_at {H : Type} (k : List UInt8) (l : List Rc) : (mapD l (.map [] : DataW H)).atKey (.string k) (.lit (.int .i64 0)) = .lit (.int .i64 ((lastOff k l).getD 0)) := by
  have key : ∀ n, ∀ l : List Rc, l.length = n → (mapD l (.map [] : DataW H)).atKey (.string k) (.lit (.int .i64 0)) = .lit (.int .i64 ((lastOff k l).getD 0)) := by
    intro n
    induction n with
    | zero =>
      intro l hl
      obtain rfl := List.length_eq_zero_iff.1 hl
      rfl
    | succ n ih =>
      intro l hl
      have hne : l ≠ [] := by intro e; subst e; simp at hl
      obtain ⟨m, r, rfl⟩ : ∃ m r, l = m ++ [r] := ⟨l.dropLast, l.getLast hne, (List.dropLast_concat_getLast hne).symm⟩
      rw [mapD_snoc, lastOff_snoc]
      by_cases h : r.key.data.toList = k
      · subst h
        rw [if_pos rfl, atKey_put_same (mapD_isMap _ _ isMap_empty) (by first | trivial | simp [WideAt.IsKeyLit])]
        rfl
      · rw [if_neg h, atKey_put_other (by intro e; injection e with e; exact h e.symm)]
        exact ih m (by simpa using hl)
  exact key _ l rfl

/-- records' cells, one behind the other -/
def flat (l : List Rc) : List Value := l.flatMap RcL
theorem flat_len (l : List Rc) : (flat l).length = l.length * 7 := by
  induction l with
  | nil => rfl
  | cons r l ih => simp [flat] at ih ⊢; rw [ih]; simp [RcL]; omega
theorem flat_snoc (l : List Rc) (r : Rc) : flat (l ++ [r]) = flat l ++ RcL r := by simp [flat]
theorem flat_at (l : List Rc) : ∀ (i : Nat) (r : Rc), l[i]? = some r → ∀ j v, (RcL r)[j]? = some v → (flat l)[i * 7 + j]? = some v := by
  induction l with
  | nil => intro i r h; simp at h
  | cons s l ih =>
    intro i r h j v hv
    have hj : j < 7 := by have := (List.getElem?_eq_some_iff.1 hv).1; exact this
    have e : flat (s :: l) = RcL s ++ flat l := by simp [flat]
    cases i with
    | zero =>
      simp at h
      subst h
      rw [e, List.getElem?_append_left (by show 0 * 7 + j < 7; omega), Nat.zero_mul, Nat.zero_add]
      exact hv
    | succ i =>
      rw [e, List.getElem?_append_right (by show 7 ≤ (i + 1) * 7 + j; omega), show (i + 1) * 7 + j - (RcL s).length = i * 7 + j by show (i + 1) * 7 + j - 7 = _; omega]
      exact ih i r (by simpa using h) j v hv
/-- a list that the code owns, read as a row of records -/
theorem Recs.of_owns {w : World} {base : Nat} {A : Option Addr} {n c : Nat} {l : List Rc} (h : w.ownsRow base 33 7 (.slice A n c) l.length (flat l)) : Recs w w.heap.size A l ∧ n = l.length := by
  rcases h.2 with ⟨e, h0⟩ | ⟨g, cap, cur, e, hb, hg, h1, h2, h3, ht⟩
  · injection e with e1 e2 e3
    subst e1 e2 e3
    exact ⟨fun hn => absurd (List.length_eq_zero_iff.1 h0) hn, h0.symm⟩
  · injection e with e1 e2 e3
    subst e1 e2 e3
    refine ⟨fun hn => ⟨g, 0, rfl, (Array.getElem?_eq_some_iff.1 hg).1, fun i r hi j v hv => ?_⟩, rfl⟩
    have := h.cells (g := g) rfl (i * 7 + j) v (flat_at l i r hi j v hv)
    rw [add_flat] at this
    simpa using this
end Go.Proofs.Ytjlfpcgopenkmaa.cp
