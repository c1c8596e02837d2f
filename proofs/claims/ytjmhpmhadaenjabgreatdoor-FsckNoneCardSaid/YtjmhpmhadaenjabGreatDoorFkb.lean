/-
  Asked of a disk: a file that is not there, the list of its names.
  Conditions: none.
-/
import Derived.Test.YtjmhpmhadaenjabGreatDoorFka
import Derived.Maps.RangeWalk
namespace Go.Proofs.YtjmhpmhadaenjabGreatDoor.fk
open Go.RowKit Go.Maps Go.WideMaps
set_option maxRecDepth 100000

theorem lawS : Keyed Tryz.prog 9 := string_keyed Tryz.underlying9
theorem zeroF (w : World) : (zeroValue 72).run Tryz.prog w = .ok (.pointer none) w := by kernel_rfl
theorem fileR_nil {v : Value} {ps : List MemPlace} (h : fileR v = some (.nil, ps)) : v = .pointer none := by
  unfold fileR at h
  split at h
  · rfl
  · cases h
  · cases h
theorem look_none {W : World} {ms n : Nat} (h : W.ownsMap Tryz.prog 9 fileR ms n (.map [])) (s : ByteArray) (hs : s.size ≤ maxLen) : (Instr.lookup 76 (.map (some ms)) (.string s) true).run Tryz.prog W = .ok (.tuple #[.pointer none, .bool false]) W := by
  obtain ⟨v, ps, hr, hv⟩ := h.look_ok lawS Tryz.underlying76 (zeroF W) (zd := .nil) (zp := []) rfl (keyOf_string_mk Tryz.underlying9 hs)
  obtain rfl := fileR_nil hv
  exact hr

/-- a disk: what is seen of it, how many operations, the fuse, is it dead -/
def Dk (w : World) (d : Nat) (D : DataW Unit) (ops f : Int) (dd : Bool) : Prop := ∃ ms mf ch q u n, Blk w d 81 (DiskC ms mf ch q u f dd ops) ∧ w.ownsMap Tryz.prog 9 fileR ms n D ∧ n < 100
theorem Dk.below {w w' : World} {d : Nat} {D : DataW Unit} {ops f : Int} {dd : Bool} (h : Dk w d D ops f dd) (hb : Below w.heap.size w w') : Dk w' d D ops f dd := by
  obtain ⟨ms, mf, ch, q, u, n, h, h1, h2⟩ := h
  exact ⟨ms, mf, ch, q, u, n, h.below hb h.lt, map_below h1 hb h1.lt, h2⟩
theorem Dk.lt {w : World} {d : Nat} {D : DataW Unit} {ops f : Int} {dd : Bool} (h : Dk w d D ops f dd) : d < w.heap.size := by
  obtain ⟨ms, mf, ch, q, u, n, h, _⟩ := h
  exact h.lt
/-- .. and its blocks are not below B -/
def DkB (w : World) (B d : Nat) (D : DataW Unit) (ops f : Int) (dd : Bool) : Prop := ∃ ms mf ch q u n, Blk w d 81 (DiskC ms mf ch q u f dd ops) ∧ w.ownsMap Tryz.prog 9 fileR ms n D ∧ n < 100 ∧ B ≤ d ∧ B ≤ ms
theorem DkB.dk {w : World} {B d : Nat} {D : DataW Unit} {ops f : Int} {dd : Bool} (h : DkB w B d D ops f dd) : Dk w d D ops f dd := by
  obtain ⟨ms, mf, ch, q, u, n, h, h1, h2, _⟩ := h
  exact ⟨ms, mf, ch, q, u, n, h, h1, h2⟩
theorem DkB.below {w w' : World} {B d : Nat} {D : DataW Unit} {ops f : Int} {dd : Bool} (h : DkB w B d D ops f dd) (hb : Below w.heap.size w w') : DkB w' B d D ops f dd := by
  obtain ⟨ms, mf, ch, q, u, n, h, h1, h2⟩ := h
  exact ⟨ms, mf, ch, q, u, n, h.below hb h.lt, map_below h1 hb h1.lt, h2⟩
/-- a disk as it was made -/
theorem Emp.dk {w : World} {B d : Nat} {q : Int} (h : Emp w B d q) : Dk w d (.map []) 0 (-1) false := by
  obtain ⟨ms, mf, h, h1, _⟩ := h
  exact ⟨ms, mf, _, q, 0, 0, h, h1, by omega⟩

theorem size_cat (d : Nat) (ops f : Int) (w : World) (h : Dk w d (.map []) ops f false) : Calls Tryz.prog 96 #[.pointer (some ⟨d, 0, none⟩), .string ⟨#[99, 97, 116, 97, 108, 111, 103]⟩] w fun e w' => e = .returned (.tuple #[.int .i64 0, .int .i64 31]) ∧ Below w.heap.size w w' := by
  obtain ⟨ms, mf, ch, q, u, n, hB, hm, hn⟩ := h
  have c4 : w.cell? ⟨d, 6, none⟩ = some (.bool false) := (hB.cell 6).trans rfl
  have H := Lib.hid hB
  have HM := Lib.hid hm
  clear hB hm
  go_enter Tryz.func96, Tryz.ntmps96
  go_wp2_with (first | (go_at_call 59; refine (good_cat _).mono ?_; rintro e w1 ⟨rfl, hb1⟩; have c0 : w1.cell? ⟨d, 0, none⟩ = some (.map (some ms)) := ((H.out.below hb1 H.out.lt).cell 0).trans rfl; have hlk := look_none (map_below HM.out hb1 HM.out.lt) ⟨#[99, 97, 116, 97, 108, 111, 103]⟩ (by decide)) | go_in)
  go_ret2
  exact ⟨rfl, hb1⟩
end Go.Proofs.YtjmhpmhadaenjabGreatDoor.fk
