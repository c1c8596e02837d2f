/-
  The table of kinds, as it was laid.
  Conditions: none.
-/
import Derived.Test.YtjmhpmhadaenjabGreatDoorFki
import Derived.Test.YtjmhpmhadaenjabGreatDoorRows
import Derived.LaidSub
import Derived.Lib.LaidTab
import Derived.OpenShut
namespace Go.Proofs.YtjmhpmhadaenjabGreatDoor.fk
open Go.ChangeShapes Go.WideShapes
open Go.RowKit

def S (s : List UInt8) : ByteArray := ⟨s.toArray⟩
theorem S_of (z : ByteArray) : S z.data.toList = z := rfl
theorem cells_of_strs {H : Type} {enc : TypeId × Value → H} {P : Program} {w : World} {base : Nat} {sp : Nat → Bool} {held : Bool} {fuel : Nat} {t e : TypeId} {n : Nat} {cs : List Value} {zs : List (List UInt8)} {p : List MemPlace}
    (ht : P.underlying t = some (.array n e)) (he : P.underlying e = some .string) (hce : P.cellsOf e = 1) (hct : P.cellsOf t = n)
    (h : DataW.trod enc P w base sp held fuel t cs = some (.agg (zs.map fun z => .lit (.string z)), p)) : cs = zs.map fun z => Value.string (S z) := by
  cases fuel with
  | zero => simp [DataW.trod] at h
  | succ fuel =>
    simp only [DataW.trod, ht, hce, hct, Nat.mul_one] at h
    split at h
    · rename_i hl
      obtain ⟨xs, hm, hx⟩ := Option.map_eq_some_iff.1 h
      have hxs : xs.map (·.1) = zs.map fun z => (DataW.lit (.string z) : DataW H) := by
        have := congrArg Prod.fst hx
        simpa using this
      have hxl : xs.length = n := by simpa using Lib.mapM_length hm
      have hzl : zs.length = n := by
        have := congrArg List.length hxs
        simp at this
        omega
      apply List.ext_getElem?
      intro i
      by_cases hi : i < n
      · obtain ⟨b, hb, hf⟩ := Lib.mapM_at hm i i (by simp [hi])
        obtain ⟨z, hc, rfl, _⟩ := DataW.trod_string he hf
        have h1 : cs[i]? = some (.string z) := by
          have := congrArg (·[0]?) hc
          simpa [List.getElem?_take, List.getElem?_drop] using this
        have h2 : (xs.map (·.1))[i]? = some (DataW.lit (.string z.data.toList) : DataW H) := by simp [hb]
        rw [hxs] at h2
        simp only [List.getElem?_map, Option.map_eq_some_iff, DataW.lit.injEq, Lit.string.injEq] at h2
        obtain ⟨z', hz', e⟩ := h2
        rw [h1, List.getElem?_map, hz', e, Option.map_some, S_of]
      · rw [List.getElem?_eq_none (by omega), List.getElem?_eq_none (by simp; omega)]
    · cases h


def kindWords : List (List UInt8) := [[99, 97, 116, 97, 108, 111, 103, 117, 101], [109, 97, 110, 105, 102, 101, 115, 116], [115, 101, 103, 109, 101, 110, 116], [116, 111, 114, 110], [111, 112, 101, 110], [111, 114, 100, 101, 114], [110, 101, 120, 116], [104, 105, 110, 116], [111, 114, 112, 104, 97, 110], [115, 116, 114, 97, 110, 103, 101, 114], [111, 116, 104, 101, 114]]
theorem kinds_laid {laid : List (String × DataW Unit)} {W : World} (hL : laidMet Tryz.prog laid W) (hf : laid.filter (fun x => x.1 == "chronicle/fsck.kinds") = [("chronicle/fsck.kinds", .agg (kindWords.map fun z => .lit (.string z)))]) : Kinds W := by
  have h := hL.filter (fun x => x.1 == "chronicle/fsck.kinds")
  rw [hf] at h
  obtain ⟨ps, ⟨g', t', cs, fuel, p, q, hg', ht', hvar, hd, _, _⟩, _⟩ := h
  have hg : Tryz.prog.globalNamed "chronicle/fsck.kinds" = some 0 := by kernel_rfl
  have hty : (Tryz.prog.globals[0]?).map (·.type) = some 43 := by kernel_rfl
  obtain rfl := Option.some.inj (hg.symm.trans hg')
  obtain rfl := Option.some.inj (hty.symm.trans ht')
  have hcs := cells_of_strs (n := 11) (e := 9) (by kernel_rfl) (by kernel_rfl) (by kernel_rfl) (by kernel_rfl) hd
  refine ⟨S [99, 97, 116, 97, 108, 111, 103, 117, 101], ?_, by decide +kernel⟩
  rw [World.var?_cell hg hvar 0, ← Array.getElem?_toList, hcs]
  rfl
end Go.Proofs.YtjmhpmhadaenjabGreatDoor.fk
