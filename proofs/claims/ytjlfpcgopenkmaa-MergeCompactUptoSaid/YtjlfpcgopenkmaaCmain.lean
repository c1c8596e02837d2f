/-
  Whatever records, clock and horizon (of bulk at most 1048576): the program and the document keep the same records, tell the same mark and error, twice, and leave what was handed in.
  No condition beyond the row's own.
-/
import Derived.Test.YtjlfpcgopenkmaaLaw
import Derived.Test.YtjlfpcgopenkmaaCpk
import Derived.Test.YtjlfpcgopenkmaaCpl
import Derived.Test.YtjlfpcgopenkmaaBulk
import Derived.WalkKit
import Derived.ProofKit
import Derived.OpenShut
import Derived.JoinedCond
namespace Go.Proofs.Ytjlfpcgopenkmaa.mergeCompact
open Go.ChangeShapes Go.WideShapes Go.ChangeAt Go.RowKit
set_option linter.unusedVariables false
set_option maxRecDepth 100000

theorem own : ownKnob Try.prog.godebug = none := by kernel_rfl
theorem laidOut : laidOutB Try.prog = true := by kernel_rfl
theorem readable2 : Try.prog.readableRec 2 = true := by kernel_rfl
theorem row2 : 2 < Try.prog.types.size := of_decide_eq_true (by kernel_rfl)
theorem readable26 : Try.prog.readableRec 26 = true := by kernel_rfl
theorem row26 : 26 < Try.prog.types.size := of_decide_eq_true (by kernel_rfl)
theorem params : ∀ t ∈ Try.f5.params.toList, Try.prog.readableRec t = true ∧ t < Try.prog.types.size := by
  rw [Try.params5]
  intro t ht
  simp only [List.mem_cons, List.not_mem_nil, or_false] at ht
  rcases ht with rfl | rfl | rfl | rfl
  all_goals first | exact ⟨readable2, row2⟩ | exact ⟨readable26, row26⟩


theorem contract (H : Type) (enc : TypeId × Value → H) (W : World) (base : Nat) (args : Array Value) (ds gs : List (DataW H)) (before : List MemPlace)
    (hval : ∀ (j : Nat) t v, Try.f5.params[j]? = some t → args[j]? = some v → Value.okWide Try.prog W .any base t v)
    (hW : DataW.Whole enc Try.prog Try.f5.params.toList Rows.mergeCompactSpec.vars false W args.toList ds gs before) (hk : Rows.uptoSmall H (ds ++ gs) = true) :
    Calls Try.prog 5 args W fun e W' => ∃ v, e = .returned v ∧ Rows.mergeCompactSpec.post enc Try.prog Try.f5 false true false false W args v W' := by
  have hW' := hW
  obtain ⟨p, q, hA0, hV, hpq, hfz, hnd⟩ := hW
  have hA : DataW.TrodAll enc Try.prog W 0 (fun _ => true) true Try.f5.params.toList args.toList ds p := hA0
  rw [Try.params5] at hA hval
  obtain ⟨v0, vs0, d0, ds0, p0, q0, hargs, rfl, rfl, h0, r0⟩ := trodAll_cons hA
  obtain ⟨v1, vs1, d1, ds1, p1, q1, rfl, rfl, rfl, h1, r1⟩ := trodAll_cons r0
  obtain ⟨v2, vs2, d2, ds2, p2, q2, rfl, rfl, rfl, h2, r2⟩ := trodAll_cons r1
  obtain ⟨v3, vs3, d3, ds3, p3, q3, rfl, rfl, rfl, h3, r3⟩ := trodAll_cons r2
  obtain ⟨rfl, rfl, rfl⟩ := trodAll_nil r3
  obtain rfl : args = #[v0, v1, v2, v3] := by cases args; simp_all
  obtain ⟨hgs, _⟩ := trodVars_none hV
  obtain ⟨a0, len0, cap0, rfl⟩ := okWide_slice Try.underlying26 (hval 0 26 v0 rfl rfl)
  obtain ⟨a1, len1, cap1, rfl⟩ := okWide_slice Try.underlying26 (hval 1 26 v1 rfl rfl)
  obtain ⟨now, rfl, rfl, rfl, wn⟩ := open_int Try.underlying2 (hval 2 2 v2 rfl rfl) h2
  obtain ⟨hor, rfl, rfl, rfl, wh⟩ := open_int Try.underlying2 (hval 3 2 v3 rfl rfl) h3
  obtain ⟨fuel0, hf0⟩ := h0
  obtain ⟨fuel1, hf1⟩ := h1
  obtain ⟨l0, rfl, hr0, hok0, hb0⟩ := cp.open_recs hf0
  obtain ⟨l1, rfl, hr1, hok1, hb1⟩ := cp.open_recs hf1
  have hbulk := bulks.bound hk
  have n0 : l0.length ≤ 1048576 := by
    rcases hb0 with rfl | ⟨es, sp, e, hl⟩
    · simp
    · have e' : d0 = .slice es sp := e
      have h1 := bulks.slice_le es sp
      have h2 := bulks.part_le (d := d0) (l := [d0, d1, .lit (.int .i64 now), .lit (.int .i64 hor)] ++ gs) (by simp)
      rw [e'] at h2
      have h3 := Nat.le_trans h2 (by rw [← e']; exact hbulk)
      omega
  have n1 : l1.length ≤ 1048576 := by
    rcases hb1 with rfl | ⟨es, sp, e, hl⟩
    · simp
    · have e' : d1 = .slice es sp := e
      have h1 := bulks.slice_le es sp
      have h2 := bulks.part_le (d := d1) (l := [d0, d1, .lit (.int .i64 now), .lit (.int .i64 hor)] ++ gs) (by simp)
      rw [e'] at h2
      have h3 := Nat.le_trans h2 (by rw [← e']; exact hbulk)
      omega
  have wn' : -9223372036854775808 ≤ now ∧ now ≤ 9223372036854775807 := by simpa [Lit.wf, IntKind.min, IntKind.max, IntKind.signed, IntKind.bits] using wn
  have wh' : -9223372036854775808 ≤ hor ∧ hor ≤ 9223372036854775807 := by simpa [Lit.wf, IntKind.min, IntKind.max, IntKind.signed, IntKind.bits] using wh
  have walked := cp.law_any l0 l1 a0 a1 cap0 cap1 now hor W hr0 hr1 hok0 hok1 n0 n1 wn'.1 wn'.2 wh'.1 wh'.2
  refine walked.mono fun e W' ⟨he, hb⟩ => ?_
  subst he
  exact ⟨_, rfl, law_post laidOut params (by kernel_rfl) Try.underlying4 rfl (fun hg => by subst hg; rfl) hW' hb⟩

set_option maxRecDepth 100000 in
theorem lifted (os : Os) (started : os.Started) (H : Type) (enc : TypeId × Value → H) (F : Stop.Interp) :
    ReturnsInHanded {} Try.checked os 5 .any ((Rows.OpenSpec.upto Rows.mergeCompactSpec).pre6 enc Try.prog Try.f5 Rows.mergeCompactUptoRow.domain false) (((Rows.OpenSpec.upto Rows.mergeCompactSpec).at F).post enc Try.prog Try.f5 false true false false) := by
  refine returnsInHanded_of_cond (C := Try.checked) (s := Rows.OpenSpec.upto Rows.mergeCompactSpec) (k := Rows.uptoSmall) rfl own started (by kernel_rfl) Try.func5
    (OpenSpec.witness (enc := enc) (C := Try.checked) (s := Rows.OpenSpec.upto Rows.mergeCompactSpec) (k := Rows.uptoSmall) rfl false ⟨#[], #[.slice none 0 0, .slice none 0 0, .int .i64 0, .int .i64 0], []⟩ 8 (by kernel_rfl) (by kernel_rfl) (by kernel_rfl)
      (x := ([.nil, .nil, .lit (.int .i64 0), .lit (.int .i64 0)], [], [])) (by kernel_rfl) rfl (by kernel_rfl)) ?_
  intro W base args ds gs before hval hW _ hk _
  exact contract H enc W base args ds gs before hval hW hk

theorem said : Rows.MergeCompactUptoSaid :=
  OpenClaim.holds_of_cond 5 Try.f5 rfl rfl rfl rfl rfl rfl rfl ⟨rfl, rfl, rfl, rfl, rfl⟩ rfl rfl rfl rfl rfl (by kernel_rfl) Try.func5 (by kernel_rfl)
    (of_decide_eq_true (by kernel_rfl)) (by unfold Func.isWrapper; first | (rw [if_pos (by decide +kernel)]; kernel_rfl) | (rw [if_neg (by decide +kernel)]; exact ⟨rfl, rfl⟩))
    (fun os started H enc _ F => lifted os started H enc F)

#print axioms said
end Go.Proofs.Ytjlfpcgopenkmaa.mergeCompact
