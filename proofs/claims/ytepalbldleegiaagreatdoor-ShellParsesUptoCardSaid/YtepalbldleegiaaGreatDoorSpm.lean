/-
  The program's Parse walked.
  Conditions: the tables are as they were laid; a line of at most a megabyte.
-/
import Derived.Test.YtepalbldleegiaaGreatDoorSpl
import Derived.Recover
import Derived.Defers
namespace Go.Proofs.YtepalbldleegiaaGreatDoor.sh
open Go.RowKit
open Go.Lib (itoa decDigits byteCells atoiAll)

theorem eq_am (w : World) : (binOp .eql 20 (.iface 61 (.agg #[])) (.iface 61 (.agg #[]))).run Tryz.prog w = .ok (.bool true) w := by
  have hi0 : (Tryz.prog.info? 61).map (·.comparable) = some true := by kernel_rfl
  cases hi : Tryz.prog.info? 61 with
  | none => simp [hi] at hi0
  | some i =>
    have hcc : i.comparable = true := by simpa [hi] using hi0
    have h : ∀ d : Nat, (Op.equalIn (d + 2) 20 (.iface 61 (.agg #[])) (.iface 61 (.agg #[]))).run Tryz.prog w = .ok true w := fun d => by
      simp [Op.equalIn, run_underlying Tryz.underlying20, run_underlying Tryz.underlying61, typeInfo, hi, hcc]
    simp only [binOp]
    simp [Op.equal, Op.maxDepth, h 9998]
set_option maxRecDepth 100000 in
set_option maxHeartbeats 4000000 in
/-- the deferred closure where reading gave up -/
theorem catch_am (cb eb : Nat) (w : World) (z0 : Array Value) (hz : z0.size = 14) (hc : Blk w cb 28 z0) (x : Value) (he : Blk w eb 30 #[x]) (hne : cb ≠ eb) :
    CallsD Tryz.prog 29 #[.pointer (some ⟨cb, 0, none⟩), .pointer (some ⟨eb, 0, none⟩)] (.panicking [{ v := .iface 61 (.agg #[]), recovered := false }]) w fun e u' w' =>
      e = .returned (.tuple #[]) ∧ u' = .panicking [{ v := .iface 61 (.agg #[]), recovered := true }] ∧ Blk w' cb 28 (cmdC cmd0 nilS nilS) ∧ Blk w' eb 30 #[.int .i64 230] ∧ Gb2 cb eb w w' := by
  refine callsD_of_wpS Tryz.func29 rfl fun c₀ cs hu => ?_
  apply wpS_seq
  apply wpS_region
  simp [wpOpsS, go_sem, recoverD, hu, Tryz.ntmps29, Exit.thenS]
  have htm : (#[Value.pointer (some { block := cb, off := 0 }), Value.pointer (some { block := eb, off := 0 })] ++ ((Array.replicate 11 undef).setIfInBounds 1 (Value.iface 61 (Value.agg #[]))).setIfInBounds 0 (Value.iface 61 (Value.agg #[]))) = #[Value.pointer (some { block := cb, off := 0 }), Value.pointer (some { block := eb, off := 0 }), Value.iface 61 (Value.agg #[]), Value.iface 61 (Value.agg #[]), undef, undef, undef, undef, undef, undef, undef, undef, undef] := rfl
  rw [htm]
  clear htm
  refine wpS_of_wp ?_
  have heq := eq_am
  go_wp2_with (first
    | ((with_reducible refine at_op ⟨_, .store 28 (.tmp 0) (.tmp 12), _, _, _, _⟩ ?_); refine wpList_store_blk rfl 28 (.tmp 0) (.tmp 12) rfl cb 0 rfl (cmdL cmd0 nilS nilS) rfl (cmdL_one _ _ _ _ _ _ _) 28 z0 hc (show 0 + 14 ≤ z0.size by omega) (by kernel_rfl) ?_; intro w1 hT1 hg1 hs1; rw [put_cmd _ hz] at hT1; have HT1 := Lib.hid hT1; have HG1 := Lib.hid hg1; have HE1 := Lib.hid (he.gb hg1 (Ne.symm hne)); have c1 := HE1.out.cell 0; have z1 := HE1.out.frozen 0; clear hT1 hg1 hs1)
    | fail)
  have hE2 : Blk (w1.setCell ⟨eb, 0, none⟩ (.int .i64 230)) eb 30 #[.int .i64 230] := HE1.out.set_ 0 _
  have hg2 := gb_setC w1 eb 0 (.int .i64 230)
  have hC2 := HT1.out.gb hg2 hne
  have hG2 : Gb2 cb eb w (w1.setCell ⟨eb, 0, none⟩ (.int .i64 230)) := (Gb2.of HG1.out).trans (Gb2.of' hg2)
  simp [bodyPostS, results, Tryz.results29]
  exact ⟨hC2, hE2, hG2⟩
set_option maxRecDepth 100000 in
set_option maxHeartbeats 4000000 in
theorem catch_idle (cb eb : Nat) (w : World) :
    CallsD Tryz.prog 29 #[.pointer (some ⟨cb, 0, none⟩), .pointer (some ⟨eb, 0, none⟩)] .returning w fun e u' w' => e = .returned (.tuple #[]) ∧ u' = .returning ∧ w' = w := by
  refine callsD_of_wpS Tryz.func29 rfl fun c₀ cs hu => ?_
  apply wpS_seq
  apply wpS_region
  simp [wpOpsS, go_sem, recoverD, hu, Tryz.ntmps29, Exit.thenS]
  have htm : (#[Value.pointer (some { block := cb, off := 0 }), Value.pointer (some { block := eb, off := 0 })] ++ ((Array.replicate 11 undef).setIfInBounds 1 Value.nilIface).setIfInBounds 0 Value.nilIface) = #[Value.pointer (some { block := cb, off := 0 }), Value.pointer (some { block := eb, off := 0 }), Value.nilIface, Value.nilIface, undef, undef, undef, undef, undef, undef, undef, undef, undef] := rfl
  rw [htm]
  clear htm
  refine wpS_of_wp ?_
  go_wp2_with fail
  cases c₀
  simp_all [bodyPostS, results, Tryz.results29]
end Go.Proofs.YtepalbldleegiaaGreatDoor.sh
