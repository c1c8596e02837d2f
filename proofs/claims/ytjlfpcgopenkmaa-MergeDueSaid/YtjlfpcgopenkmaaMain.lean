/-
  Whatever the segments' numbers and the share: whether a merge is due is told alike by the program and the document.
  No condition beyond the row's own.
-/
import Derived.Test.YtjlfpcgopenkmaaLaw
import Derived.Test.YtjlfpcgopenkmaaDuee
import Derived.Test.YtjlfpcgopenkmaaOpen
import Derived.WalkKit
import Derived.ProofKit
import Derived.OpenShut
import Derived.SizedLaws
namespace Go.Proofs.Ytjlfpcgopenkmaa.mergeDue
open Go.ChangeShapes Go.WideShapes Go.ChangeAt Go.RowKit
set_option linter.unusedVariables false
set_option maxRecDepth 100000

theorem own : ownKnob Try.prog.godebug = none := by kernel_rfl
theorem laidOut : laidOutB Try.prog = true := by kernel_rfl
theorem readable3 : Try.prog.readableRec 3 = true := by kernel_rfl
theorem row3 : 3 < Try.prog.types.size := of_decide_eq_true (by kernel_rfl)
theorem readable24 : Try.prog.readableRec 24 = true := by kernel_rfl
theorem row24 : 24 < Try.prog.types.size := of_decide_eq_true (by kernel_rfl)
theorem params : ∀ t ∈ Try.f4.params.toList, Try.prog.readableRec t = true ∧ t < Try.prog.types.size := by
  rw [Try.params4]
  intro t ht
  simp only [List.mem_cons, List.not_mem_nil, or_false] at ht
  rcases ht with rfl | rfl
  all_goals first | exact ⟨readable3, row3⟩ | exact ⟨readable24, row24⟩


theorem contract (H : Type) (enc : TypeId × Value → H) (W : World) (base : Nat) (args : Array Value) (ds gs : List (DataW H)) (before : List MemPlace)
    (hval : ∀ (j : Nat) t v, Try.f4.params[j]? = some t → args[j]? = some v → Value.okWide Try.prog W .any base t v)
    (hW : DataW.Whole enc Try.prog Try.f4.params.toList Rows.mergeDueSpec.vars false W args.toList ds gs before) (hsz : (DataW.weightsEach Try.prog (Try.f4.params.toList ++ Rows.mergeDueSpec.plain.varTypes Try.prog) (ds ++ gs)).all (· ≤ reachBytes) = true) :
    Calls Try.prog 4 args W fun e W' => ∃ v, e = .returned v ∧ Rows.mergeDueSpec.post enc Try.prog Try.f4 false true false false W args v W' := by
  have hW' := hW
  obtain ⟨p, q, hA0, hV, hpq, hfz, hnd⟩ := hW
  have hA : DataW.TrodAll enc Try.prog W 0 (fun _ => true) true Try.f4.params.toList args.toList ds p := hA0
  rw [Try.params4] at hA hval hsz
  obtain ⟨v0, vs0, d0, ds0, p0, q0, hargs, rfl, rfl, h0, r0⟩ := trodAll_cons hA
  obtain ⟨v1, vs1, d1, ds1, p1, q1, rfl, rfl, rfl, h1, r1⟩ := trodAll_cons r0
  obtain ⟨rfl, rfl, rfl⟩ := trodAll_nil r1
  obtain rfl : args = #[v0, v1] := by cases args; simp_all
  obtain ⟨hgs, _⟩ := trodVars_none hV
  obtain ⟨a0, len, cap, rfl⟩ := okWide_slice Try.underlying24 (hval 0 24 v0 rfl rfl)
  obtain ⟨s, rfl, rfl, rfl, ws⟩ := open_int Try.underlying3 (hval 1 3 v1 rfl rfl) h1
  obtain ⟨fuel, hf⟩ := h0
  have walked : Calls Try.prog 4 #[.slice a0 len cap, .int .i64 s] W fun e w' => e = .returned (.bool true) ∧ Below W.heap.size W w' := by
    rcases open_slice_fields Try.underlying24 Try.underlying36 (by kernel_rfl) (by kernel_rfl) hf with ⟨hcs, _⟩ | ⟨a, len', cap', m, D, Pl, hcs, _, hl, hm, hmm, hx, hi⟩
    · simp [Value.cells] at hcs
      obtain ⟨rfl, rfl, rfl⟩ := hcs
      exact due.law_any none 0 0 (fun _ _ => 0) s W (fun h => by omega) (fun i hi => by omega) (by omega)
    · simp [Value.cells] at hcs
      obtain ⟨rfl, rfl, rfl⟩ := hcs
      simp only [if_true] at hmm
      subst hmm
      have hd : d0 = .slice ((List.range len).map D) ((List.range (m - len)).map fun j => D (len + j)) := congrArg Prod.fst hx
      have hsize := sized_slice hsz (j := 0) (t := 24) (e := 36) rfl (by rw [hd]; rfl) Try.underlying24
      have hby : Try.prog.bytesOf 36 = 40 := by kernel_rfl
      have hrb : reachBytes = 140737488351232 := rfl
      rw [hby, hrb] at hsize
      simp only [List.length_map, List.length_range] at hsize
      have hcell : ∀ i, i < m → ∀ j, j < 5 → ∃ q, W.cell? (a.add (i * 5 + j)) = some (.int .i64 q) ∧ -9223372036854775808 ≤ q ∧ q ≤ 9223372036854775807 := by
        intro i him j hj
        obtain ⟨ys, n, _, _, _, hf'⟩ := hi i him
        have hone : ∀ (j : Nat) (fd : Field) (_ : fd.type = 3) (v : Value) (y : DataW H × List MemPlace), W.cell? (a.add (i * 5 + j)) = some v → DataW.trod enc Try.prog W 0 (fun _ => true) true n fd.type [v] = some y → ∃ q, W.cell? (a.add (i * 5 + j)) = some (.int .i64 q) ∧ -9223372036854775808 ≤ q ∧ q ≤ 9223372036854775807 := by
          intro j fd h3 v y hc ht
          rw [h3] at ht
          obtain ⟨q, hv, _, wq⟩ := DataW.trod_int Try.underlying3 ht
          simp at hv
          subst hv
          exact ⟨q, hc, by simpa [Lit.wf, IntKind.min, IntKind.max, IntKind.signed, IntKind.bits] using wq⟩
        rcases (by omega : j = 0 ∨ j = 1 ∨ j = 2 ∨ j = 3 ∨ j = 4) with rfl | rfl | rfl | rfl | rfl
        · obtain ⟨v, y, hc, _, ht⟩ := hf' 0 _ rfl
          exact hone 0 _ rfl v y hc ht
        · obtain ⟨v, y, hc, _, ht⟩ := hf' 1 _ rfl
          exact hone 1 _ rfl v y hc ht
        · obtain ⟨v, y, hc, _, ht⟩ := hf' 2 _ rfl
          exact hone 2 _ rfl v y hc ht
        · obtain ⟨v, y, hc, _, ht⟩ := hf' 3 _ rfl
          exact hone 3 _ rfl v y hc ht
        · obtain ⟨v, y, hc, _, ht⟩ := hf' 4 _ rfl
          exact hone 4 _ rfl v y hc ht
      refine due.law_any (some a) len m (fun i j => match W.cell? (a.add (i * 5 + j)) with | some (.int _ q) => q | _ => 0) s W ?_ ?_ (by omega)
      · intro hn
        obtain ⟨q, hq, _⟩ := hcell 0 (by omega) 0 (by omega)
        have hblk := block_lt_of_cell hq
        obtain ⟨b, off, sp⟩ := a
        cases sp with
        | some x =>
          exfalso
          simp [World.cell?, Addr.add] at hq
          split at hq <;> simp_all
        | none =>
          refine ⟨b, off, rfl, ?_, fun i hi' j hj => ?_⟩
          · rw [add_flat] at hblk; exact hblk
          · obtain ⟨q, hq, _⟩ := hcell i (by omega) j hj
            simp only [hq]
            rw [add_flat, ← Nat.add_assoc] at hq
            exact hq
      · intro i hi' j hj
        obtain ⟨q, hq, hb1, hb2⟩ := hcell i (by omega) j hj
        simp only [hq]
        exact ⟨hb1, hb2⟩
  refine walked.mono fun e W' ⟨he, hb⟩ => ?_
  subst he
  exact ⟨_, rfl, law_post laidOut params (by kernel_rfl) Try.underlying4 rfl (fun hg => by subst hg; rfl) hW' hb⟩

set_option maxRecDepth 100000 in
theorem lifted (os : Os) (started : os.Started) (H : Type) (enc : TypeId × Value → H) :
    ReturnsInHanded {} Try.checked os 4 .any (Rows.mergeDueSpec.pre6 enc Try.prog Try.f4 Rows.mergeDueRow.domain false) (Rows.mergeDueSpec.post enc Try.prog Try.f4 false true false false) := by
  refine returnsInHanded_of_change_sized (C := Try.checked) own started (by kernel_rfl) Try.func4
    (ChangeSpec.witness6 (enc := enc) (C := Try.checked) false ⟨#[], #[.slice none 0 0, .int .i64 0], []⟩ 8 (by kernel_rfl) (by kernel_rfl) (by kernel_rfl) (by kernel_rfl)) ?_
  intro W base args ds gs before hval hW _ hsz _
  exact contract H enc W base args ds gs before hval hW hsz

theorem said : Rows.MergeDueSaid :=
  OpenClaim.holds_of_wide 4 Try.f4 rfl rfl rfl rfl rfl rfl rfl ⟨rfl, rfl, rfl, rfl, rfl⟩ rfl rfl rfl rfl rfl (by kernel_rfl) Try.func4 (by kernel_rfl)
    (of_decide_eq_true (by kernel_rfl)) (by unfold Func.isWrapper; first | (rw [if_pos (by decide +kernel)]; kernel_rfl) | (rw [if_neg (by decide +kernel)]; exact ⟨rfl, rfl⟩))
    (fun os started H enc _ => lifted os started H enc)

#print axioms said
end Go.Proofs.Ytjlfpcgopenkmaa.mergeDue
