/-
  Names of files that may be: walked.
  Conditions: none.
-/
import Derived.Test.YtepmjghgnhklfaaGreatDoorOcb
import Derived.Lib.ConvBytes
namespace Go.Proofs.YtepmjghgnhklfaaGreatDoor.oc
open Go.RowKit
set_option maxRecDepth 100000

theorem conv_below (w : World) (e : TypeId) (s : ByteArray) : Below w.heap.size w (Lib.bytesWorld w e s) :=
  ⟨rfl, rfl, rfl, by rw [Lib.bytesWorld_size]; omega, fun k hk => Lib.bytesWorld_at_old w e s k hk⟩
def okc (n : Nat) : Prop := (97 ≤ n ∧ n ≤ 122) ∨ (48 ≤ n ∧ n ≤ 57) ∨ n = 46 ∨ n = 45 ∨ n = 95
instance (n : Nat) : Decidable (okc n) := by unfold okc; infer_instance
/-- a name that a file may have -/
def GoodN (s : ByteArray) : Prop := 0 < s.size ∧ s.size ≤ 32 ∧ (∀ c, s.data.toList[0]? = some c → c.toNat ≠ 46 ∧ c.toNat ≠ 45 ∧ c.toNat ≠ 95) ∧ ∀ c ∈ s.data.toList, okc c.toNat
set_option maxHeartbeats 2000000 in
theorem good_any (s : ByteArray) (h : GoodN s) (w : World) : Calls Tryz.prog 90 #[.string s] w fun e w' => e = .returned (.bool true) ∧ Below w.heap.size w w' := by
  obtain ⟨h0, h32, hd, hall⟩ := h
  have hcv := Lib.run_convert_string_bytes (P := Tryz.prog) w 9 106 5 s Tryz.underlying9 Tryz.underlying106 Tryz.underlying5
  have hc : ∀ j, j < s.size → (Lib.bytesWorld w 5 s).cell? ⟨w.heap.size, j, none⟩ = some (.int .u8 (s.data.toList.getD j 0).toNat) := fun j hj => Lib.bytesWorld_cell w _ s j hj
  have hb := conv_below w 5 s
  generalize Lib.bytesWorld w 5 s = w1 at *
  generalize grownCap w s.size 0 5 = cap at *
  have hl : s.data.toList.length = s.size := by simp
  have hx := hd s[0] (by rw [List.getElem?_eq_getElem (by omega)]; rfl)
  obtain ⟨x1, x2, x3⟩ := hx
  have t1 : ((s[0].toNat : Int) == 46) = false := by rw [beq_eq_false_iff_ne]; omega
  have t2 : ((s[0].toNat : Int) == 45) = false := by rw [beq_eq_false_iff_ne]; omega
  have t3 : ((s[0].toNat : Int) == 95) = false := by rw [beq_eq_false_iff_ne]; omega
  have t0 : s.toList.isEmpty = false := by
    rw [ByteArray.toList_eq, List.isEmpty_eq_false_iff]
    intro e
    rw [e] at hl
    simp at hl
    omega
  have HALL := Lib.hid hall
  have HL := Lib.hid hl
  have HC := Lib.hid hc
  clear hd hall hl hc x1 x2 x3
  go_enter Tryz.func90, Tryz.ntmps90
  go_wp2_with fail
  clear hcv t0 t1 t2 t3
  go_loop [30] (fun i => ∃ j : Nat, j ≤ s.size ∧ i = .int .i64 (j : Int)) (fun i => s.size - (intOf i).toNat)
  case atStart => exact ⟨0, Nat.zero_le _, rfl⟩
  case round =>
    obtain ⟨j, hj, rfl⟩ := hrel
    by_cases hlt : j < s.size
    · have hcj := HC.out j hlt
      have hok : okc (s.data.toList.getD j 0).toNat := by
        rw [List.getD, List.getElem?_eq_getElem (by rw [HL.out]; exact hlt), Option.getD_some]
        exact HALL.out _ (List.getElem_mem _)
      generalize (s.data.toList.getD j 0).toNat = n at hcj hok
      unfold okc at hok
      rcases hok with ⟨a1, a2⟩ | ⟨a1, a2⟩ | rfl | rfl | rfl
      all_goals
        go_wp2_with fail
        go_round
        case rel => exact ⟨j + 1, by omega, by go_num⟩
        case measure => simp [intOf]; omega
    · go_wp2_with fail
      go_ret
      exact ⟨rfl, hb⟩
end Go.Proofs.YtepmjghgnhklfaaGreatDoor.oc
