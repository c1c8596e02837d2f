/-
  The operations' table with its fields: walked.
  Conditions: none.
-/
import Derived.Test.YtepalbldleegiaaGreatDoorSzb
namespace Go.Proofs.YtepalbldleegiaaGreatDoor.sh
open Go.RowKit
open Go.Lib (itoa decDigits byteCells)

def fdW : Fd → Nat
  | .T => 90
  | .K => 93
  | .V => 95
  | .O => 97
  | .N => 99
  | .P => 101
  | .S => 103
def fdR : Fd → Nat
  | .T => 91
  | .K => 94
  | .V => 96
  | .O => 98
  | .N => 100
  | .P => 102
  | .S => 104
/-- a list of fields in a block of its own -/
def FldOK (w : World) (F : Option Addr) (l : List Fd) : Prop := l ≠ [] → ∃ b cs, F = some ⟨b, 0, none⟩ ∧ Blk w b 104 cs ∧ ∀ (j : Nat) (fd : Fd), l[j]? = some fd → ∀ (k : Nat) (v : Value), (fnL (fdW fd) (fdR fd))[k]? = some v → cs[j * 2 + k]? = some v
/-- the fields of operation i -/
def FieldsAt (w : World) (g i : Nat) : Prop := ∃ F, w.cell? ⟨g, i * 2 + 1, none⟩ = some (.slice F (fieldsN i).length (fieldsN i).length) ∧ FldOK w F (fieldsN i)
theorem FldOK.below {w w' : World} {F : Option Addr} {l : List Fd} (h : FldOK w F l) (hb : Below w.heap.size w w') : FldOK w' F l := fun hn => by
  obtain ⟨b, cs, e, hB, hc⟩ := h hn
  exact ⟨b, cs, e, hB.below hb hB.lt, hc⟩
theorem FldOK.grown {w w' : World} {F : Option Addr} {l : List Fd} (h : FldOK w F l) {B : Nat} {v : Value} {n : Nat} {xs : List Value} (ho : w.ownsRow B 9 1 v n xs) (hg : w.grownBy w' v.ownBlock) : FldOK w' F l := fun hn => by
  obtain ⟨b, cs, e, hB, hc⟩ := h hn
  refine ⟨b, cs, e, hB.grown hg (fun e0 => ?_), hc⟩
  rcases ho.2 with ⟨rfl, -⟩ | ⟨g, cap, cur, rfl, -, hgg, -⟩
  · cases e0
  · simp only [Value.ownBlock, Option.some.injEq] at e0
    subst e0
    unfold Blk at hB
    rw [hB] at hgg
    injection hgg with hgg
    injection hgg with h1 h2
    exact absurd h2 (by decide)
theorem fld_mk {W : World} {b : Nat} {CS : Array Value} {l : List Fd} (h : Blk W b 104 CS) (hv : ∀ (j : Nat) (fd : Fd), l[j]? = some fd → ∀ (k : Nat) (v : Value), (fnL (fdW fd) (fdR fd))[k]? = some v → CS[j * 2 + k]? = some v) : FldOK W (some ⟨b, 0, none⟩) l := fun _ => ⟨b, CS, rfl, h, hv⟩
theorem blk_at (W : World) (t : TypeId) (CS : Array Value) (n : Nat) (hn : n = W.heap.size) : Blk (W.alloc (.cells CS t)) n t CS := by subst hn; exact Blk.new W t CS

theorem blk_read {W : World} {t : TypeId} {CS : Array Value} {n k : Nat} {v : Value} (h : Blk W n t CS) (hv : CS[k]? = some v) : W.cell? ⟨n, k, none⟩ = some v := (h.cell k).trans hv
set_option maxRecDepth 100000 in
set_option maxHeartbeats 8000000 in
theorem operations_full (w : World) : Calls Tryz.prog 74 #[] w fun e w' => ∃ g, e = .returned (.slice (some ⟨g, 0, none⟩) 16 16) ∧ g < w'.heap.size ∧ (∀ i, i < 16 → w'.cell? ⟨g, i * 2, none⟩ = some (.string (S (wordAt i))) ∧ FieldsAt w' g i) ∧ Below w.heap.size w w' := by
  go_enter Tryz.func74, Tryz.ntmps74
  go_wp2_with (first
    | ((with_reducible refine at_op ⟨_, .store 104 (.tmp 1) (.tmp 8), _, _, _, _⟩ ?_); refine wpList_store_blk rfl 104 (.tmp 1) (.tmp 8) rfl w.heap.size 0 rfl (fnL 90 91) rfl (fnL_one _ _) 104 #[.nilFunc, .nilFunc] (Blk.new w 104 #[.nilFunc, .nilFunc]) (show 0 + 2 ≤ 2 from Nat.le_refl 2) (by kernel_rfl) ?_; intro w1 hT1 hg1 hs1; have HT1 := Lib.hid hT1; have HG1 := Lib.hid hg1; have HS1 : Hid (Below w.heap.size w w1) := below_gb ((Below.refl _ w).alloc (Nat.le_refl _) _) hg1 (by rw [World.size_alloc]; exact Nat.le_succ _) (Nat.le_refl _); clear hT1 hg1 hs1)
    | ((with_reducible refine at_op ⟨_, .store 104 (.tmp 2) (.tmp 9), _, _, _, _⟩ ?_); refine wpList_store_blk rfl 104 (.tmp 2) (.tmp 9) rfl w1.heap.size 0 rfl (fnL 93 94) rfl (fnL_one _ _) 104 #[.nilFunc, .nilFunc] (Blk.new w1 104 #[.nilFunc, .nilFunc]) (show 0 + 2 ≤ 2 from Nat.le_refl 2) (by kernel_rfl) ?_; intro w2 hT2 hg2 hs2; have HT2 := Lib.hid hT2; have HG2 := Lib.hid hg2; have HS2 : Hid (Below w.heap.size w w2) := below_gb (HS1.out.alloc HS1.out.size _) hg2 (by rw [World.size_alloc]; exact Nat.le_succ_of_le HS1.out.size) HS1.out.size; clear hT2 hg2 hs2)
    | ((with_reducible refine at_op ⟨_, .store 104 (.tmp 3) (.tmp 10), _, _, _, _⟩ ?_); refine wpList_store_blk rfl 104 (.tmp 3) (.tmp 10) rfl w2.heap.size 0 rfl (fnL 95 96) rfl (fnL_one _ _) 104 #[.nilFunc, .nilFunc] (Blk.new w2 104 #[.nilFunc, .nilFunc]) (show 0 + 2 ≤ 2 from Nat.le_refl 2) (by kernel_rfl) ?_; intro w3 hT3 hg3 hs3; have HT3 := Lib.hid hT3; have HG3 := Lib.hid hg3; have HS3 : Hid (Below w.heap.size w w3) := below_gb (HS2.out.alloc HS2.out.size _) hg3 (by rw [World.size_alloc]; exact Nat.le_succ_of_le HS2.out.size) HS2.out.size; clear hT3 hg3 hs3)
    | ((with_reducible refine at_op ⟨_, .store 104 (.tmp 4) (.tmp 11), _, _, _, _⟩ ?_); refine wpList_store_blk rfl 104 (.tmp 4) (.tmp 11) rfl w3.heap.size 0 rfl (fnL 97 98) rfl (fnL_one _ _) 104 #[.nilFunc, .nilFunc] (Blk.new w3 104 #[.nilFunc, .nilFunc]) (show 0 + 2 ≤ 2 from Nat.le_refl 2) (by kernel_rfl) ?_; intro w4 hT4 hg4 hs4; have HT4 := Lib.hid hT4; have HG4 := Lib.hid hg4; have HS4 : Hid (Below w.heap.size w w4) := below_gb (HS3.out.alloc HS3.out.size _) hg4 (by rw [World.size_alloc]; exact Nat.le_succ_of_le HS3.out.size) HS3.out.size; clear hT4 hg4 hs4)
    | ((with_reducible refine at_op ⟨_, .store 104 (.tmp 5) (.tmp 12), _, _, _, _⟩ ?_); refine wpList_store_blk rfl 104 (.tmp 5) (.tmp 12) rfl w4.heap.size 0 rfl (fnL 99 100) rfl (fnL_one _ _) 104 #[.nilFunc, .nilFunc] (Blk.new w4 104 #[.nilFunc, .nilFunc]) (show 0 + 2 ≤ 2 from Nat.le_refl 2) (by kernel_rfl) ?_; intro w5 hT5 hg5 hs5; have HT5 := Lib.hid hT5; have HG5 := Lib.hid hg5; have HS5 : Hid (Below w.heap.size w w5) := below_gb (HS4.out.alloc HS4.out.size _) hg5 (by rw [World.size_alloc]; exact Nat.le_succ_of_le HS4.out.size) HS4.out.size; clear hT5 hg5 hs5)
    | ((with_reducible refine at_op ⟨_, .store 104 (.tmp 6) (.tmp 13), _, _, _, _⟩ ?_); refine wpList_store_blk rfl 104 (.tmp 6) (.tmp 13) rfl w5.heap.size 0 rfl (fnL 101 102) rfl (fnL_one _ _) 104 #[.nilFunc, .nilFunc] (Blk.new w5 104 #[.nilFunc, .nilFunc]) (show 0 + 2 ≤ 2 from Nat.le_refl 2) (by kernel_rfl) ?_; intro w6 hT6 hg6 hs6; have HT6 := Lib.hid hT6; have HG6 := Lib.hid hg6; have HS6 : Hid (Below w.heap.size w w6) := below_gb (HS5.out.alloc HS5.out.size _) hg6 (by rw [World.size_alloc]; exact Nat.le_succ_of_le HS5.out.size) HS5.out.size; clear hT6 hg6 hs6)
    | ((with_reducible refine at_op ⟨_, .store 104 (.tmp 7) (.tmp 14), _, _, _, _⟩ ?_); refine wpList_store_blk rfl 104 (.tmp 7) (.tmp 14) rfl w6.heap.size 0 rfl (fnL 103 104) rfl (fnL_one _ _) 104 #[.nilFunc, .nilFunc] (Blk.new w6 104 #[.nilFunc, .nilFunc]) (show 0 + 2 ≤ 2 from Nat.le_refl 2) (by kernel_rfl) ?_; intro w7 hT7 hg7 hs7; have HT7 := Lib.hid hT7; have HG7 := Lib.hid hg7; have HS7 : Hid (Below w.heap.size w w7) := below_gb (HS6.out.alloc HS6.out.size _) hg7 (by rw [World.size_alloc]; exact Nat.le_succ_of_le HS6.out.size) HS6.out.size; clear hT7 hg7 hs7; have B1 := (Blk.next (Blk.next (Blk.next (Blk.next (Blk.next (Blk.next HT1.out HG2.out) HG3.out) HG4.out) HG5.out) HG6.out) HG7.out); have l1 := Blk.lt B1; have HB1 := Lib.hid B1; clear B1; have B2 := (Blk.next (Blk.next (Blk.next (Blk.next (Blk.next HT2.out HG3.out) HG4.out) HG5.out) HG6.out) HG7.out); have l2 := Blk.lt B2; have HB2 := Lib.hid B2; clear B2; have B3 := (Blk.next (Blk.next (Blk.next (Blk.next HT3.out HG4.out) HG5.out) HG6.out) HG7.out); have l3 := Blk.lt B3; have HB3 := Lib.hid B3; clear B3; have B4 := (Blk.next (Blk.next (Blk.next HT4.out HG5.out) HG6.out) HG7.out); have l4 := Blk.lt B4; have HB4 := Lib.hid B4; clear B4; have B5 := (Blk.next (Blk.next HT5.out HG6.out) HG7.out); have l5 := Blk.lt B5; have HB5 := Lib.hid B5; clear B5; have B6 := (Blk.next HT6.out HG7.out); have l6 := Blk.lt B6; have HB6 := Lib.hid B6; clear B6; have B7 := HT7.out; have l7 := Blk.lt B7; have HB7 := Lib.hid B7; clear B7)
    | ((with_reducible refine at_op ⟨_, .load 104 (.tmp 1), _, _, _, _⟩ ?_); refine wpList_load_list rfl 104 (.tmp 1) rfl ⟨w.heap.size, 0, none⟩ rfl [.func (.func 90) #[] #[], .func (.func 91) #[] #[]] (fn_load (by repeat (first | exact HB1.out | refine Blk.alloc ?_ _))) _ Tryz.underlying104 rfl (by kernel_rfl) ?_)
    | ((with_reducible refine at_op ⟨_, .load 104 (.tmp 2), _, _, _, _⟩ ?_); refine wpList_load_list rfl 104 (.tmp 2) rfl ⟨w1.heap.size, 0, none⟩ rfl [.func (.func 93) #[] #[], .func (.func 94) #[] #[]] (fn_load (by repeat (first | exact HB2.out | refine Blk.alloc ?_ _))) _ Tryz.underlying104 rfl (by kernel_rfl) ?_)
    | ((with_reducible refine at_op ⟨_, .load 104 (.tmp 3), _, _, _, _⟩ ?_); refine wpList_load_list rfl 104 (.tmp 3) rfl ⟨w2.heap.size, 0, none⟩ rfl [.func (.func 95) #[] #[], .func (.func 96) #[] #[]] (fn_load (by repeat (first | exact HB3.out | refine Blk.alloc ?_ _))) _ Tryz.underlying104 rfl (by kernel_rfl) ?_)
    | ((with_reducible refine at_op ⟨_, .load 104 (.tmp 4), _, _, _, _⟩ ?_); refine wpList_load_list rfl 104 (.tmp 4) rfl ⟨w3.heap.size, 0, none⟩ rfl [.func (.func 97) #[] #[], .func (.func 98) #[] #[]] (fn_load (by repeat (first | exact HB4.out | refine Blk.alloc ?_ _))) _ Tryz.underlying104 rfl (by kernel_rfl) ?_)
    | ((with_reducible refine at_op ⟨_, .load 104 (.tmp 5), _, _, _, _⟩ ?_); refine wpList_load_list rfl 104 (.tmp 5) rfl ⟨w4.heap.size, 0, none⟩ rfl [.func (.func 99) #[] #[], .func (.func 100) #[] #[]] (fn_load (by repeat (first | exact HB5.out | refine Blk.alloc ?_ _))) _ Tryz.underlying104 rfl (by kernel_rfl) ?_)
    | ((with_reducible refine at_op ⟨_, .load 104 (.tmp 6), _, _, _, _⟩ ?_); refine wpList_load_list rfl 104 (.tmp 6) rfl ⟨w5.heap.size, 0, none⟩ rfl [.func (.func 101) #[] #[], .func (.func 102) #[] #[]] (fn_load (by repeat (first | exact HB6.out | refine Blk.alloc ?_ _))) _ Tryz.underlying104 rfl (by kernel_rfl) ?_)
    | ((with_reducible refine at_op ⟨_, .load 104 (.tmp 7), _, _, _, _⟩ ?_); refine wpList_load_list rfl 104 (.tmp 7) rfl ⟨w6.heap.size, 0, none⟩ rfl [.func (.func 103) #[] #[], .func (.func 104) #[] #[]] (fn_load (by repeat (first | exact HB7.out | refine Blk.alloc ?_ _))) _ Tryz.underlying104 rfl (by kernel_rfl) ?_)
    | fail)
  go_ret
  refine ⟨_, rfl, by simp, fun i hi => ⟨?_, ?_⟩, ?_⟩
  · rw [new_cell _ _ _ _ _ (by simp only [World.size_alloc])]
    rcases (by omega : i = 0 ∨ i = 1 ∨ i = 2 ∨ i = 3 ∨ i = 4 ∨ i = 5 ∨ i = 6 ∨ i = 7 ∨ i = 8 ∨ i = 9 ∨ i = 10 ∨ i = 11 ∨ i = 12 ∨ i = 13 ∨ i = 14 ∨ i = 15) with rfl | rfl | rfl | rfl | rfl | rfl | rfl | rfl | rfl | rfl | rfl | rfl | rfl | rfl | rfl | rfl
    all_goals rfl
  · rcases (by omega : i = 0 ∨ i = 1 ∨ i = 2 ∨ i = 3 ∨ i = 4 ∨ i = 5 ∨ i = 6 ∨ i = 7 ∨ i = 8 ∨ i = 9 ∨ i = 10 ∨ i = 11 ∨ i = 12 ∨ i = 13 ∨ i = 14 ∨ i = 15) with rfl | rfl | rfl | rfl | rfl | rfl | rfl | rfl | rfl | rfl | rfl | rfl | rfl | rfl | rfl | rfl
    all_goals
      refine ⟨_, by rw [new_cell _ _ _ _ _ (by simp only [World.size_alloc])]; rfl, ?_⟩
      first
        | exact fun hne => absurd rfl hne
        | (apply fld_mk
           · repeat (first | (refine blk_at _ _ _ _ ?_; simp only [World.size_alloc]; done) | apply Blk.alloc)
           · intro j fd hj k v hv
             have hk : k < 2 := (List.getElem?_eq_some_iff.1 hv).1
             have hjl := (List.getElem?_eq_some_iff.1 hj).1
             simp only [fieldsN, List.length_cons, List.length_nil] at hjl
             rcases (by omega : k = 0 ∨ k = 1) with rfl | rfl <;> rcases (by omega : j = 0 ∨ j = 1 ∨ j = 2 ∨ j = 3 ∨ j = 4) with rfl | rfl | rfl | rfl | rfl <;> first | (exfalso; omega) | (obtain rfl := Option.some.inj hj; exact hv))
  · repeat (first | exact HS7.out | refine below_more ?_ _)
end Go.Proofs.YtepalbldleegiaaGreatDoor.sh
