/-
  The two errors' variables, as they were laid.
  Conditions: none.
-/
import Derived.Test.YtepalbldleegiaaGreatDoorSzo
import Derived.Test.YtepalbldleegiaaGreatDoorSpa
namespace Go.Proofs.YtepalbldleegiaaGreatDoor.sh
open Go.ChangeShapes Go.WideShapes Go.Deep
open Go.RowKit
open Go.Lib (itoa decDigits byteCells)

theorem iface_laid {name nm : String} {dd : DataW Unit} {laid : List (String × DataW Unit)} {W : World} {g : Nat} (hL : laidMet Tryz.prog laid W) (hf : laid.filter (fun x => x.1 == name) = [(name, .iface nm dd)]) (hg : Tryz.prog.globalNamed name = some g) (hty : (Tryz.prog.globals[g]?).map (·.type) = some 84) : g < W.heap.size ∧ ∃ t p, W.cell? ⟨g, 0, none⟩ = some (.iface t p) := by
  have h := hL.filter (fun x => x.1 == name)
  rw [hf] at h
  obtain ⟨ps, ⟨g', t', cs, fuel, p, q, hg', ht', hvar, hd, _, _⟩, _⟩ := h
  obtain rfl := Option.some.inj (hg.symm.trans hg')
  obtain rfl := Option.some.inj (hty.symm.trans ht')
  obtain ⟨-, u, v, hcs, -, -⟩ := iface_of_trod Tryz.underlying84 hd
  have hc : W.cell? ⟨g, 0, none⟩ = some (.iface u v) := by
    rw [World.var?_cell hg hvar 0, ← Array.getElem?_toList, hcs]
    rfl
  exact ⟨block_lt_of_cell hc, u, v, hc⟩
theorem errs_laid {laid : List (String × DataW Unit)} {W : World} {d1 d2 : DataW Unit} {n1 n2 : String} (hL : laidMet Tryz.prog laid W) (h1 : laid.filter (fun x => x.1 == "strconv.ErrSyntax") = [("strconv.ErrSyntax", .iface n1 d1)]) (h2 : laid.filter (fun x => x.1 == "strconv.ErrRange") = [("strconv.ErrRange", .iface n2 d2)]) : Errs W := by
  have a := iface_laid (g := 4) hL h1 (by kernel_rfl) (by kernel_rfl)
  have b := iface_laid (g := 5) hL h2 (by kernel_rfl) (by kernel_rfl)
  exact ⟨by have := b.1; omega, a.2, b.2⟩
end Go.Proofs.YtepalbldleegiaaGreatDoor.sh
