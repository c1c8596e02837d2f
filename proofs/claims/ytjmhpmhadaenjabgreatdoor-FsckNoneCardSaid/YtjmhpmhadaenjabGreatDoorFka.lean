/-
  A new disk and what is asked of an empty one: walked.
  Conditions: none.
-/
import Derived.Test.YtjmhpmhadaenjabGreatDoorMem
import Derived.WalkSpells
import Derived.WalkLawsBesides
import Derived.Lib.Hide
import Derived.Maps.OwnSet
import Derived.Lib.ConvBytes
namespace Go.Proofs.YtjmhpmhadaenjabGreatDoor.fk
open Go.RowKit Go.Maps
set_option maxRecDepth 100000

theorem made_at {w : World} {P : Program} {k : TypeId} {R : Value → Option (DataW Unit × List MemPlace)} {n : Nat} (h : w.heap.size = n) : (w.alloc (.map #[] 0)).ownsMap P k R n 0 (.map []) := h ▸ World.ownsMap_made w P k R
theorem map_below {w w' : World} {P : Program} {k : TypeId} {R : Value → Option (DataW Unit × List MemPlace)} {B b n : Nat} {D : DataW Unit} (h : w.ownsMap P k R b n D) (hb : Below B w w') (hB : b < B) : w'.ownsMap P k R b n D := by
  obtain ⟨es, clock, h1, h2⟩ := h
  exact ⟨es, clock, (hb.block b hB).trans h1, h2⟩
/-- a file's pointer as a datum: its block -/
def fileR : Value → Option (DataW Unit × List MemPlace)
  | .pointer none => some (.nil, [])
  | .pointer (some ⟨b, 0, none⟩) => some (.lit (.int .u64 b), [])
  | _ => none
def DiskC (ms mf : Nat) (ch : Value) (q u f : Int) (dd : Bool) (ops : Int) : Array Value :=
  #[.map (some ms), .map (some mf), ch, .int .i64 q, .int .i64 u, .int .i64 f, .bool dd, .int .i64 ops]
/-- an empty disk that nobody has touched -/
def Emp (w : World) (B d : Nat) (q : Int) : Prop := ∃ ms mf, Blk w d 81 (DiskC ms mf (.slice none 0 0) q 0 (-1) false 0) ∧ w.ownsMap Tryz.prog 9 fileR ms 0 (.map []) ∧ w.ownsMap Tryz.prog 9 fileR mf 0 (.map []) ∧ B ≤ d ∧ B ≤ ms
theorem Emp.lt {w : World} {B d : Nat} {q : Int} (h : Emp w B d q) : d < w.heap.size := by
  obtain ⟨ms, mf, h, _⟩ := h
  exact h.lt
theorem Emp.below {w w' : World} {B d : Nat} {q : Int} (h : Emp w B d q) (hb : Below w.heap.size w w') : Emp w' B d q := by
  obtain ⟨ms, mf, h, h1, h2, h3⟩ := h
  exact ⟨ms, mf, h.below hb h.lt, map_below h1 hb h1.lt, map_below h2 hb h2.lt, h3⟩

theorem fresh_any (q : Int) (w : World) : Calls Tryz.prog 22 #[.int .i64 q] w fun e w' => e = .returned (.pointer (some ⟨w.heap.size, 0, none⟩)) ∧ Emp w' w.heap.size w.heap.size q ∧ Below w.heap.size w w' := by
  have hmm := @run_makeMap Tryz.prog
  go_enter Tryz.func22, Tryz.ntmps22
  go_wp2
  go_ret
  refine ⟨rfl, ⟨w.heap.size + 1, w.heap.size + 1 + 1, ?_, ?_, ?_, Nat.le_refl _, by omega⟩, ?_⟩
  · exact ((Blk.new w _ _).alloc _).alloc _
  · exact (made_at (by simp)).alloc _
  · exact made_at (by simp)
  · exact (((Below.refl _ _).alloc (Nat.le_refl _) _).alloc (by simp) _).alloc (by simp; omega) _
theorem new_any (q : Int) (h0 : 0 ≤ q) (h1 : q ≤ 1000000) (w : World) : Calls Tryz.prog 6 #[.int .i64 q] w fun e w' => e = .returned (.tuple #[.pointer (some ⟨w.heap.size, 0, none⟩), .int .i64 0]) ∧ Emp w' w.heap.size w.heap.size q ∧ Below w.heap.size w w' := by
  have hq : decide (q ≤ 1073741824) = true := by simp; omega
  go_enter Tryz.func6, Tryz.ntmps6
  go_wp2_with (first | (go_at_call 22; refine (fresh_any _ _).mono ?_; rintro e w1 ⟨rfl, hE, hb⟩) | go_in)
  go_ret2
  exact ⟨rfl, hE, hb⟩


theorem conv_below (w : World) (e : TypeId) (s : ByteArray) : Below w.heap.size w (Lib.bytesWorld w e s) :=
  ⟨rfl, rfl, rfl, by rw [Lib.bytesWorld_size]; omega, fun k hk => Lib.bytesWorld_at_old w e s k hk⟩
set_option maxHeartbeats 1000000 in
theorem good_cat (w : World) : Calls Tryz.prog 59 #[.string ⟨#[99, 97, 116, 97, 108, 111, 103]⟩] w fun e w' => e = .returned (.bool true) ∧ Below w.heap.size w w' := by
  have hcv := Lib.run_convert_string_bytes (P := Tryz.prog) w 9 83 5 (⟨#[99, 97, 116, 97, 108, 111, 103]⟩ : ByteArray) Tryz.underlying9 Tryz.underlying83 Tryz.underlying5
  have hc : ∀ j, j < 7 → (Lib.bytesWorld w 5 (⟨#[99, 97, 116, 97, 108, 111, 103]⟩ : ByteArray)).cell? ⟨w.heap.size, j, none⟩ = some (.int .u8 ([99, 97, 116, 97, 108, 111, 103].getD j (0 : UInt8)).toNat) := fun j hj => Lib.bytesWorld_cell w _ (⟨#[99, 97, 116, 97, 108, 111, 103]⟩ : ByteArray) j hj
  have hb := conv_below w 5 (⟨#[99, 97, 116, 97, 108, 111, 103]⟩ : ByteArray)
  generalize Lib.bytesWorld w 5 (⟨#[99, 97, 116, 97, 108, 111, 103]⟩ : ByteArray) = w1 at *
  generalize grownCap w (⟨#[99, 97, 116, 97, 108, 111, 103]⟩ : ByteArray).size 0 5 = cap at *
  go_enter Tryz.func59, Tryz.ntmps59
  go_wp2
  clear hcv
  go_loop [30] (fun i => ∃ j : Nat, j ≤ 7 ∧ i = .int .i64 (j : Int)) (fun i => 7 - (intOf i).toNat)
  case atStart => exact ⟨0, Nat.zero_le _, rfl⟩
  case round =>
    obtain ⟨j, hj, rfl⟩ := hrel
    rcases (by omega : j = 0 ∨ j = 1 ∨ j = 2 ∨ j = 3 ∨ j = 4 ∨ j = 5 ∨ j = 6 ∨ j = 7) with rfl | rfl | rfl | rfl | rfl | rfl | rfl | rfl
    · have hcj : w1.cell? ⟨w.heap.size, 0, none⟩ = some (.int .u8 99) := hc 0 (by decide)
      clear hc
      go_wp2
      go_round
      case rel => exact ⟨1, by decide, rfl⟩
      case measure => decide
    · have hcj : w1.cell? ⟨w.heap.size, 1, none⟩ = some (.int .u8 97) := hc 1 (by decide)
      clear hc
      go_wp2
      go_round
      case rel => exact ⟨2, by decide, rfl⟩
      case measure => decide
    · have hcj : w1.cell? ⟨w.heap.size, 2, none⟩ = some (.int .u8 116) := hc 2 (by decide)
      clear hc
      go_wp2
      go_round
      case rel => exact ⟨3, by decide, rfl⟩
      case measure => decide
    · have hcj : w1.cell? ⟨w.heap.size, 3, none⟩ = some (.int .u8 97) := hc 3 (by decide)
      clear hc
      go_wp2
      go_round
      case rel => exact ⟨4, by decide, rfl⟩
      case measure => decide
    · have hcj : w1.cell? ⟨w.heap.size, 4, none⟩ = some (.int .u8 108) := hc 4 (by decide)
      clear hc
      go_wp2
      go_round
      case rel => exact ⟨5, by decide, rfl⟩
      case measure => decide
    · have hcj : w1.cell? ⟨w.heap.size, 5, none⟩ = some (.int .u8 111) := hc 5 (by decide)
      clear hc
      go_wp2
      go_round
      case rel => exact ⟨6, by decide, rfl⟩
      case measure => decide
    · have hcj : w1.cell? ⟨w.heap.size, 6, none⟩ = some (.int .u8 103) := hc 6 (by decide)
      clear hc
      go_wp2
      go_round
      case rel => exact ⟨7, by decide, rfl⟩
      case measure => decide
    · clear hc
      go_wp2
      go_ret
      exact ⟨rfl, hb⟩
theorem good_a (w : World) : Calls Tryz.prog 59 #[.string ⟨#[97]⟩] w fun e w' => e = .returned (.bool true) ∧ Below w.heap.size w w' := by
  have hcv := Lib.run_convert_string_bytes (P := Tryz.prog) w 9 83 5 (⟨#[97]⟩ : ByteArray) Tryz.underlying9 Tryz.underlying83 Tryz.underlying5
  have hc : ∀ j, j < 1 → (Lib.bytesWorld w 5 (⟨#[97]⟩ : ByteArray)).cell? ⟨w.heap.size, j, none⟩ = some (.int .u8 ([97].getD j (0 : UInt8)).toNat) := fun j hj => Lib.bytesWorld_cell w _ (⟨#[97]⟩ : ByteArray) j hj
  have hb := conv_below w 5 (⟨#[97]⟩ : ByteArray)
  generalize Lib.bytesWorld w 5 (⟨#[97]⟩ : ByteArray) = w1 at *
  generalize grownCap w (⟨#[97]⟩ : ByteArray).size 0 5 = cap at *
  go_enter Tryz.func59, Tryz.ntmps59
  go_wp2
  clear hcv
  go_loop [30] (fun i => ∃ j : Nat, j ≤ 1 ∧ i = .int .i64 (j : Int)) (fun i => 1 - (intOf i).toNat)
  case atStart => exact ⟨0, Nat.zero_le _, rfl⟩
  case round =>
    obtain ⟨j, hj, rfl⟩ := hrel
    rcases (by omega : j = 0 ∨ j = 1) with rfl | rfl
    · have hcj : w1.cell? ⟨w.heap.size, 0, none⟩ = some (.int .u8 97) := hc 0 (by decide)
      clear hc
      go_wp2
      go_round
      case rel => exact ⟨1, by decide, rfl⟩
      case measure => decide
    · clear hc
      go_wp2
      go_ret
      exact ⟨rfl, hb⟩
end Go.Proofs.YtjmhpmhadaenjabGreatDoor.fk
