/-
  The program's parts of a line: words; next walked.
  Conditions: none beyond the hypotheses.
-/
import Derived.Test.YtepalbldleegiaaGreatDoorSwx
import Derived.Test.YtepalbldleegiaaGreatDoorShc
import Derived.Test.YtepalbldleegiaaGreatDoorSwa
import Derived.Test.YtepalbldleegiaaGreatDoorSqh
import Derived.WalkLawsBesides
namespace Go.Proofs.YtepalbldleegiaaGreatDoor.sh
open Go.RowKit
open Go.Lib (itoa decDigits byteCells atoiAll)

/-- the panic with which reading gives up -/
def am : List PanicEntry := [{ v := .iface 61 (.agg #[]), recovered := false }]
/-- the parts that are left -/
def PartsAt (w : World) (pg : Nat) (l : List Bs) : Prop := 6 ≤ pg ∧
  ∃ g k cap, Blk w pg 65 #[.slice (some ⟨g, k, none⟩) l.length cap] ∧ g < pg ∧ l.length ≤ cap ∧ ∀ j x, l[j]? = some x → w.cell? ⟨g, k + j, none⟩ = some (.string (S x))
theorem gb_cell {w w' : World} {pg : Nat} (h : w.grownBy w' (some pg)) {p : Addr} (hp : p.block < w.heap.size) (hne : p.block ≠ pg) : w'.cell? p = w.cell? p :=
  World.cell?_of_block (w := w) (h.block p.block hp (fun e => hne (by injection e)))
theorem PartsAt.lt {w : World} {pg : Nat} {l : List Bs} (h : PartsAt w pg l) : pg < w.heap.size := by
  obtain ⟨-, g, k, cap, hb, -⟩ := h
  exact hb.lt
theorem PartsAt.below {w w' : World} {pg : Nat} {l : List Bs} (h : PartsAt w pg l) (hb : Below w.heap.size w w') : PartsAt w' pg l := by
  obtain ⟨h0, g, k, cap, h1, h2, h4, h5⟩ := h
  exact ⟨h0, g, k, cap, h1.below hb h1.lt, h2, h4, fun j x hx => (hb.cell (p := ⟨g, k + j, none⟩) (Nat.lt_trans h2 h1.lt)).trans (h5 j x hx)⟩
theorem PartsAt.grown {w w' : World} {pg : Nat} {l : List Bs} {row : Option Nat} (h : PartsAt w pg l) (hg : w.grownBy w' row) (hr : ∀ k, row = some k → pg < k) : PartsAt w' pg l := by
  obtain ⟨h0, g, k, cap, h1, h2, h4, h5⟩ := h
  refine ⟨h0, g, k, cap, h1.grown hg (fun e => by have := hr _ e.symm; omega), h2, h4, fun j x hx => ?_⟩
  exact (World.cell?_of_block (w := w) (hg.block g (Nat.lt_trans h2 h1.lt) (fun e => by have := hr _ e.symm; omega))).trans (h5 j x hx)
/-- what a reader's call gives: a value and the parts that are left, or the panic -/
def Reads {α : Type} (enc : α → Value) (pg : Nat) (w : World) (o : Option (α × List Bs)) (e : Ending) (w' : World) : Prop :=
  match o with
  | none => e = .panicked am ∧ w.grownBy w' (some pg)
  | some (v, r) => e = .returned (enc v) ∧ w.grownBy w' (some pg) ∧ PartsAt w' pg r
theorem gb_refl (w : World) (row : Option Nat) : w.grownBy w row := ⟨rfl, rfl, rfl, Nat.le_refl _, fun _ _ _ => rfl⟩
theorem gb_below {w w' : World} (pg : Nat) (h : Below w.heap.size w w') : w.grownBy w' (some pg) := ⟨h.os, h.tape, h.output, h.size, fun k hk _ => h.block k hk⟩
theorem gb_trans {a b c : World} {pg : Nat} (h : a.grownBy b (some pg)) (k : b.grownBy c (some pg)) : a.grownBy c (some pg) :=
  ⟨k.os.trans h.os, k.tape.trans h.tape, k.output.trans h.output, Nat.le_trans h.size k.size, fun i hi hn => (k.block i (Nat.lt_of_lt_of_le hi h.size) hn).trans (h.block i hi hn)⟩
theorem gb_drew {a b : World} {row : Option Nat} (h : a.grownBy b row) : a.grownBy b.drew row := ⟨h.os, h.tape, h.output, h.size, h.block⟩
theorem gb_own {a b c : World} {pg : Nat} {row : Option Nat} (h : a.grownBy b (some pg)) (k : b.grownBy c row) (hr : ∀ j, row = some j → a.heap.size ≤ j) : a.grownBy c (some pg) :=
  ⟨k.os.trans h.os, k.tape.trans h.tape, k.output.trans h.output, Nat.le_trans h.size k.size, fun i hi hn => (k.block i (Nat.lt_of_lt_of_le hi h.size) (fun e => by have := hr i e.symm; omega)).trans (h.block i hi hn)⟩
/-- how many parts are left -/
def partsLen (w : World) (pg : Nat) : Nat := match w.cell? ⟨pg, 0, none⟩ with
  | some (.slice _ n _) => n
  | _ => 0
theorem PartsAt.len {w : World} {pg : Nat} {l : List Bs} (h : PartsAt w pg l) : partsLen w pg = l.length := by
  obtain ⟨-, g, k, cap, hb, -⟩ := h
  unfold partsLen
  rw [hb.cell 0]
  rfl
theorem PartsAt.cell {w : World} {pg : Nat} {l : List Bs} (h : PartsAt w pg l) : ∃ A cap, w.cell? ⟨pg, 0, none⟩ = some (.slice A l.length cap) ∧ l.length ≤ cap := by
  obtain ⟨-, g, k, cap, hb, -, hc, -⟩ := h
  exact ⟨_, _, hb.cell 0, hc⟩
theorem PartsAt.drew {w : World} {pg : Nat} {l : List Bs} (h : PartsAt w pg l) : PartsAt w.drew pg l := h
theorem gb_setC (w : World) (g i : Nat) (v : Value) : w.grownBy (w.setCell ⟨g, i, none⟩ v) (some g) := ⟨rfl, rfl, rfl, by simp [World.setCell], fun k _ hne => Below.heap_setCell w ⟨g, i, none⟩ v k (fun e => hne (by rw [e]))⟩

theorem next_none (pg : Nat) (w : World) (h : PartsAt w pg []) : Calls Tryz.prog 68 #[.pointer (some ⟨pg, 0, none⟩)] w fun e w' => e = .panicked am ∧ w.grownBy w' (some pg) := by
  obtain ⟨-, g, k, cap, hb, hgp, hc, hcl⟩ := h
  have q0 : w.cell? ⟨pg, 0, none⟩ = some (.slice (some ⟨g, k, none⟩) 0 cap) := hb.cell 0
  go_enter Tryz.func68, Tryz.ntmps68
  go_wp2_with fail
  exact ⟨rfl, rfl, gb_refl _ _⟩
theorem next_some (pg : Nat) (x : Bs) (r : List Bs) (w : World) (h : PartsAt w pg (x :: r)) : Calls Tryz.prog 68 #[.pointer (some ⟨pg, 0, none⟩)] w fun e w' => e = .returned (.string (S x)) ∧ w.grownBy w' (some pg) ∧ PartsAt w' pg r := by
  obtain ⟨h6, g, k, cap, hb, hgp, hc, hcl⟩ := h
  have hg : g < w.heap.size := Nat.lt_trans hgp hb.lt
  have hne : g ≠ pg := by omega
  have q0 : w.cell? ⟨pg, 0, none⟩ = some (.slice (some ⟨g, k, none⟩) (r.length + 1) cap) := hb.cell 0
  have q1 : w.cell? ⟨g, k, none⟩ = some (.string (S x)) := hcl 0 x rfl
  have z0 : w.frozen? ⟨pg, 0, none⟩ = false := hb.frozen 0
  rw [List.length_cons] at hc
  go_enter Tryz.func68, Tryz.ntmps68
  have hs := gb_setC w pg 0
  have hbs := fun v => hb.set_ 0 v
  have hcs : ∀ (v : Value) (j : Nat) (y : Bs), r[j]? = some y → (w.setCell ⟨pg, 0, none⟩ v).cell? ⟨g, k + 1 + j, none⟩ = some (.string (S y)) := fun v j y hy => by
    rw [gb_cell (hs v) hg hne, Nat.add_assoc, Nat.add_comm 1 j]
    exact hcl (j + 1) y hy
  have HS := Lib.hid hs
  have HBS := Lib.hid hbs
  have HCS := Lib.hid hcs
  clear hs hbs hcs hcl
  go_wp2_with fail
  · go_ret
    refine ⟨rfl, HS.out _, h6, g, k, 0, HBS.out _, hgp, by omega, fun j y hy => ?_⟩
    have := (List.getElem?_eq_some_iff.1 hy).1
    omega
  · go_ret
    exact ⟨rfl, HS.out _, h6, g, k + 1, cap - 1, HBS.out _, hgp, by omega, HCS.out _⟩
/-- what the two errors' variables hold -/
def Errs (w : World) : Prop := 5 < w.heap.size ∧ (∃ t p, w.cell? ⟨4, 0, none⟩ = some (.iface t p)) ∧ ∃ t p, w.cell? ⟨5, 0, none⟩ = some (.iface t p)
theorem Errs.gb {w w' : World} {pg : Nat} (h : Errs w) (hg : w.grownBy w' (some pg)) (h6 : 6 ≤ pg) : Errs w' := by
  obtain ⟨h0, ⟨t, p, h1⟩, t', p', h2⟩ := h
  exact ⟨Nat.lt_of_lt_of_le h0 hg.size, ⟨t, p, (gb_cell hg (p := ⟨4, 0, none⟩) (by show 4 < _; omega) (by show 4 ≠ _; omega)).trans h1⟩, t', p', (gb_cell hg (p := ⟨5, 0, none⟩) (by show 5 < _; omega) (by show 5 ≠ _; omega)).trans h2⟩
theorem Errs.below {w w' : World} (h : Errs w) (hb : Below w.heap.size w w') : Errs w' := h.gb (gb_below 6 hb) (Nat.le_refl _)
end Go.Proofs.YtepalbldleegiaaGreatDoor.sh
