/-
  Summaries at this seat: names, sums of bytes, texts.
  Conditions: none.
-/
import Derived.Test.YtepmjghgnhklfaaGreatDoorGn
import Derived.Test.YtepmjghgnhklfaaGreatDoorDe
namespace Go.Proofs.YtepmjghgnhklfaaGreatDoor.det
open Go Go.RowKit
set_option maxRecDepth 100000

theorem crcStep_eq (n : Nat) : crcStep n = oc.stepN n := by
  unfold crcStep oc.stepN
  rw [Tr.beq_dec]
  by_cases h : n % 2 = 1
  · have h' : Nat.mod n 2 = 1 := h
    rw [decide_eq_true h', cond_true, if_pos h]
    rfl
  · have h' : ¬ Nat.mod n 2 = 1 := h
    rw [decide_eq_false h', cond_false, if_neg h]
    rfl
theorem crcTab_eq (i : Nat) : crcTab i = oc.tabN i := by
  unfold crcTab oc.tabN
  simp only [oc.step4, crcStep_eq]
theorem crcByte_eq (x c : Nat) : crcByte x c = oc.crcRound x c := by
  unfold crcByte crcNib oc.crcRound
  simp only [crcTab_eq]
  rfl
theorem crcAll_eq : ∀ (l : List UInt8) (x : Nat), crcAll l x = oc.crcN x l
  | [], x => rfl
  | c :: l, x => by
    unfold crcAll
    rw [crcAll_eq l, crcByte_eq]
    rfl
theorem crcExt_eq (s : Nat) (l : List UInt8) : crcExt s l = oc.extN s l := by
  unfold crcExt oc.extN
  rw [crcAll_eq]
  rfl
theorem extendAt : ∀ (args : List Value) (M : Mem) (v : Value) (M' : Mem), extendS args M = some (v, M') → ∀ (ρ : Ren) (A : Nat → Prop) (args' : Array Value) (w : World), Rm Tryz.prog ρ A M w → AsR ρ A args args' → Goes Tryz.prog 109 args' w (RetV Tryz.prog ρ A M w v M') :=
  extendS_ok (fun a w => Tryz.call109 a w) (fun s hs l hl a c w h => by
    rw [crcExt_eq]
    exact oc.extend_any s hs l hl a c w h)
theorem sumAt : ∀ (args : List Value) (M : Mem) (v : Value) (M' : Mem), sumS args M = some (v, M') → ∀ (ρ : Ren) (A : Nat → Prop) (args' : Array Value) (w : World), Rm Tryz.prog ρ A M w → AsR ρ A args args' → Goes Tryz.prog 156 args' w (RetV Tryz.prog ρ A M w v M') :=
  sumS_ok (fun a w => Tryz.call156 a w) (fun l hl a c w h => by
    rw [crcExt_eq]
    exact oc.sum_any l hl a c w h)
theorem goodB_all : ∀ (l : List UInt8), goodB l = true → ∀ c ∈ l, oc.okc c.toNat
  | [], _, c, hc => by cases hc
  | b :: l, h, c, hc => by
    unfold goodB at h
    cases hb : okB b.toNat <;> rw [hb] at h
    · cases h
    · rcases List.mem_cons.mp hc with rfl | hc
      · unfold okB at hb
        simp only [Bool.or_eq_true, Bool.and_eq_true, Nat.ble_eq, Nat.beq_eq] at hb
        unfold oc.okc
        omega
      · exact goodB_all l h c hc
theorem goodAt : ∀ (args : List Value) (M : Mem) (v : Value) (M' : Mem), textS goodP args M = some (v, M') → ∀ (ρ : Ren) (A : Nat → Prop) (args' : Array Value) (w : World), Rm Tryz.prog ρ A M w → AsR ρ A args args' → Goes Tryz.prog 90 args' w (RetV Tryz.prog ρ A M w v M') :=
  textS_ok (fun a w => Tryz.call90 a w) (fun s v hp => by
    unfold goodP at hp
    split at hp
    · rename_i c r hs
      cases hb : (Nat.ble r.length 31 && not (Nat.beq c.toNat 46) && not (Nat.beq c.toNat 45) && not (Nat.beq c.toNat 95) && goodB (c :: r)) <;> rw [hb] at hp
      · cases hp
      · simp only [cond_true, Option.some.injEq] at hp
        subst hp
        simp only [Bool.and_eq_true, Bool.not_eq_true', Nat.ble_eq] at hb
        obtain ⟨⟨⟨⟨b1, b2⟩, b3⟩, b4⟩, b5⟩ := hb
        have hlen : s.size = r.length + 1 := by rw [bl_size, hs]; rfl
        refine ⟨rfl, fun w => (oc.good_any s ⟨by omega, by omega, fun c' hc' => ?_, fun c' hc' => ?_⟩ w)⟩
        · have e : s.data.toList = c :: r := hs
          rw [e] at hc'
          simp only [List.getElem?_cons_zero, Option.some.injEq] at hc'
          subst hc'
          rw [Tr.beq_dec] at b2 b3 b4
          exact ⟨of_decide_eq_false b2, of_decide_eq_false b3, of_decide_eq_false b4⟩
        · refine goodB_all _ b5 c' ?_
          have e : s.data.toList = c :: r := hs
          rwa [e] at hc'
    · cases hp)
theorem countAt : ∀ (args : List Value) (M : Mem) (v : Value) (M' : Mem), countS args M = some (v, M') → ∀ (ρ : Ren) (A : Nat → Prop) (args' : Array Value) (w : World), Rm Tryz.prog ρ A M w → AsR ρ A args args' → Goes Tryz.prog 228 args' w (RetV Tryz.prog ρ A M w v M') :=
  countS_ok (fun s c v w h => ext_run (fn := Tryz.f228) Tryz.func228 (by kernel_rfl) rfl (by kernel_rfl) (by kernel_rfl) h)
theorem indexAt : ∀ (args : List Value) (M : Mem) (v : Value) (M' : Mem), indexS args M = some (v, M') → ∀ (ρ : Ren) (A : Nat → Prop) (args' : Array Value) (w : World), Rm Tryz.prog ρ A M w → AsR ρ A args args' → Goes Tryz.prog 299 args' w (RetV Tryz.prog ρ A M w v M') :=
  indexS_ok (fun s c v w h => ext_run (fn := Tryz.f299) Tryz.func299 (by kernel_rfl) rfl (by kernel_rfl) (by kernel_rfl) h)
end Go.Proofs.YtepmjghgnhklfaaGreatDoor.det
