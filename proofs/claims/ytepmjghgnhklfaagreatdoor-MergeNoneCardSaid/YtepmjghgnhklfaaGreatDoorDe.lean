/-
  The whole run is right; summaries; environments.
  Conditions: none.
-/
import Derived.Test.YtepmjghgnhklfaaGreatDoorDd
import Derived.Below
import Derived.Lib.Bytealg
import Derived.Maps.Own
import Derived.Sort.KeysCollected
import Derived.Laws.IdiomCopy
namespace Go.Proofs.YtepmjghgnhklfaaGreatDoor.det
open Go

section
variable {E : Env} {P : Program} {rc : RC} {rf : RF} {ρ ρ' : Ren} {A A' : Nat → Prop} {M M' : Mem} {w : World}

/-- every code but a loop -/
theorem codeS_ok (H : EnvOk E P) (C : SoundC E P rc) (Fs : SoundF E P rf) {cx : CX} {ro : Option Nat} {c : Code} {s s' : CS} {ex : Ex} (h : codeS E rc rf cx ro c s = some (ex, s')) (hnl : ∀ b, c ≠ .loop b) (hfit : fitC E.G cx c = true) (hn : cx.nt ≤ lim) {a : Act} {F : Fence} (hF : FenceOk P F) (hro : RoOk ρ A ro F) (hG : GOK ρ A E.G)
    (hM : Rm P ρ A s.M w) (hT : Rt ρ A cx.nt s.T a.tmps) (hD : DfR ρ A s.df a.defers) : c.wpIn F 0 P (Done P ρ A s.M w cx.nt ex s') a w := by
  cases c with
  | skip =>
    simp only [codeS, Option.some.injEq, Prod.mk.injEq] at h
    obtain ⟨rfl, rfl⟩ := h
    exact wpIn_skip ⟨rfl, ρ, A, .refl hM, hT, hD⟩
  | label l =>
    simp only [codeS, Option.some.injEq, Prod.mk.injEq] at h
    obtain ⟨rfl, rfl⟩ := h
    exact wpIn_label ⟨rfl, ρ, A, .refl hM, hT, hD⟩
  | exit id =>
    simp only [codeS, Option.some.injEq, Prod.mk.injEq] at h
    obtain ⟨rfl, rfl⟩ := h
    exact wpIn_exit ⟨rfl, ρ, A, .refl hM, hT, hD⟩
  | ret =>
    simp only [codeS, Option.some.injEq, Prod.mk.injEq] at h
    obtain ⟨rfl, rfl⟩ := h
    exact wpIn_ret ⟨rfl, ρ, A, .refl hM, hT, hD⟩
  | goto l => cases h
  | refuse y => cases h
  | loop b => exact (hnl b rfl).elim
  | region id ops draw =>
    cases draw with
    | false =>
      simp only [codeS] at h
      split at h
      · rename_i s1 hs
        simp only [Option.some.injEq, Prod.mk.injEq] at h
        obtain ⟨rfl, rfl⟩ := h
        refine wpIn_region ?_
        have := seqOps_ok H C Fs hn hfit hF (ρ0 := ρ) (A0 := A) (M0 := s.M) (w0 := w) 0 s hs ρ A a w (.refl hM) hro hG hT hD
        rwa [Nat.sub_zero, ← List.range_eq_range'] at this
      · cases h
    | true =>
      simp only [codeS] at h
      simp only [fitC, Bool.and_eq_true] at hfit
      split at h
      · rename_i pl hpl
        rw [hpl] at hfit
        split at h
        · rename_i r hr
          simp only [Option.some.injEq, Prod.mk.injEq] at h
          obtain ⟨rfl, rfl⟩ := h
          refine drawn_ok hF H.base (oneS_ok H C Fs) H.mixed hfit.1 hfit.2 hn hG hM hT hr (fun ρ' A' a' w' hst hT' hdf => ⟨rfl, ρ', A', hst, hT', ?_⟩)
          rw [hdf]
          exact hD.up hst.up hst.agree
        · cases h
      · cases h
  | seq x y =>
    simp only [codeS] at h
    simp only [fitC, Bool.and_eq_true] at hfit
    refine wpIn_seq ?_
    split at h
    · rename_i s1 hs1
      refine wpIn_mono (C cx ro x s _ s1 hs1 hfit.1 hn ρ A a w F hF hro hG hM hT hD) (fun e a' w' he => ?_)
      obtain ⟨rfl, ρ1, A1, h1, h2, h3⟩ := he
      exact wpIn_mono (C cx ro y s1 ex s' h hfit.2 hn ρ1 A1 a' w' F hF (hro.up h1.up h1.agree) (h1.gok hG) h1.mem h2 h3) (fun e a2 w2 he => Done.trans h1 he)
    · rename_i id s1 hs1
      simp only [Option.some.injEq, Prod.mk.injEq] at h
      obtain ⟨rfl, rfl⟩ := h
      refine wpIn_mono (C cx ro x s _ s1 hs1 hfit.1 hn ρ A a w F hF hro hG hM hT hD) (fun e a' w' he => ?_)
      obtain ⟨rfl, h0⟩ := he
      exact ⟨rfl, h0⟩
    · rename_i s1 hs1
      simp only [Option.some.injEq, Prod.mk.injEq] at h
      obtain ⟨rfl, rfl⟩ := h
      refine wpIn_mono (C cx ro x s _ s1 hs1 hfit.1 hn ρ A a w F hF hro hG hM hT hD) (fun e a' w' he => ?_)
      obtain ⟨rfl, h0⟩ := he
      exact ⟨rfl, h0⟩
    · cases h
  | cond c x y =>
    simp only [codeS] at h
    simp only [fitC, Bool.and_eq_true] at hfit
    split at h
    · rename_i t ht
      have hev : Rv ρ A (evO s.T c) (a.eval c) := evO_ok hG hfit.1.1 (fun t ht => by
        subst ht
        exact hT.val t (by simpa [fitO, Nat.blt_eq] using hfit.1.1))
      rw [ht] at hev
      have hb : a.eval c = .bool t := by
        generalize a.eval c = q at hev
        cases hev
        rfl
      refine wpIn_cond hb ?_
      cases t with
      | true => exact C cx ro x s ex s' h hfit.1.2 hn ρ A a w F hF hro hG hM hT hD
      | false => exact C cx ro y s ex s' h hfit.2 hn ρ A a w F hF hro hG hM hT hD
    · cases h
  | block id b =>
    simp only [codeS] at h
    refine wpIn_block ?_
    split at h
    · rename_i s1 hs1
      simp only [Option.some.injEq, Prod.mk.injEq] at h
      obtain ⟨rfl, rfl⟩ := h
      refine wpIn_mono (C cx ro b s _ s1 hs1 hfit hn ρ A a w F hF hro hG hM hT hD) (fun e a' w' he => ?_)
      obtain ⟨rfl, h0⟩ := he
      exact ⟨rfl, h0⟩
    · rename_i j s1 hs1
      refine wpIn_mono (C cx ro b s _ s1 hs1 hfit hn ρ A a w F hF hro hG hM hT hD) (fun e a' w' he => ?_)
      obtain ⟨rfl, h0⟩ := he
      show if j = id then _ else _
      cases hj : Nat.beq j id <;> rw [hj] at h
      · simp only [cond_false, Option.some.injEq, Prod.mk.injEq] at h
        obtain ⟨rfl, rfl⟩ := h
        rw [if_neg (fun e => by subst e; simp at hj)]
        exact ⟨rfl, h0⟩
      · simp only [cond_true, Option.some.injEq, Prod.mk.injEq] at h
        obtain ⟨rfl, rfl⟩ := h
        rw [if_pos (Nat.eq_of_beq_eq_true hj)]
        exact ⟨rfl, h0⟩
    · rename_i s1 hs1
      simp only [Option.some.injEq, Prod.mk.injEq] at h
      obtain ⟨rfl, rfl⟩ := h
      refine wpIn_mono (C cx ro b s _ s1 hs1 hfit hn ρ A a w F hF hro hG hM hT hD) (fun e a' w' he => ?_)
      obtain ⟨rfl, h0⟩ := he
      exact ⟨rfl, h0⟩
    · cases h
  | scope b =>
    cases ro with
    | some l => cases h
    | none =>
      simp only [codeS] at h
      have hw := hF.eq hro
      subst hw
      refine wpIn_wide.mpr (wp_scope_straight ((wpIn_wide (n := 0)).mp ?_))
      refine wpIn_mono (C cx none b s ex s' h hfit hn ρ A a w _ hF hro hG hM hT hD) (fun e a' w' he => ?_)
      obtain ⟨rfl, h0⟩ := he
      cases ex <;> exact ⟨rfl, h0⟩
  | rangeFunc g ps asg body =>
    simp only [fitC, Bool.and_eq_true] at hfit
    exact rangeS_ok H Fs h hfit.1.1 hF hro hG hM hT hD

/-! ### Results and deferred calls -/
theorem argT_get {nt : Nat} (hn : nt ≤ lim) : ∀ (args : List Value) (i : Nat) (T : Tr Value) (t : Nat), i + args.length ≤ nt → tget (argT nt args i T) t = if i ≤ t then (match args[t - i]? with | some v => v | none => tget T t) else tget T t
  | [], i, T, t, _ => by
    simp [argT]
  | v :: r, i, T, t, h => by
    have e : argT nt (v :: r) i T = argT nt r (Nat.succ i) (tput nt T i v) := rfl
    simp only [List.length_cons] at h
    rw [e, argT_get hn r (Nat.succ i) _ t (by omega), tget_put hn (by omega)]
    by_cases h1 : t = i
    · subst h1
      rw [if_neg (by omega), if_pos rfl, if_pos (Nat.le_refl _), Nat.sub_self]
      rfl
    · rw [if_neg h1]
      by_cases h2 : i ≤ t
      · rw [if_pos (by omega), if_pos h2]
        have : t - i = (t - Nat.succ i) + 1 := by omega
        rw [this, List.getElem?_cons_succ]
      · rw [if_neg (by omega), if_neg h2]
theorem entry_ok {nt : Nat} (hn : nt ≤ lim) {args : List Value} {args' : Array Value} (ha : AsR ρ A args args') (hl : args.length ≤ nt) : Rt ρ A nt (argT nt args 0 .nil) (args' ++ Array.replicate (nt - args'.size) undef) := by
  have hs := ha.1
  refine ⟨by simp; omega, fun t ht => ?_⟩
  rw [argT_get hn args 0 .nil t (by omega), if_pos (Nat.zero_le _), Nat.sub_zero]
  have hu : tget (Tr.nil : Tr Value) t = undef := by
    unfold tget
    rw [Tr.get_nil]
    rfl
  rw [Array.getD_eq_getD_getElem?]
  cases h : args[t]? with
  | some v =>
    have htl : t < args.length := by
      rcases Nat.lt_or_ge t args.length with h1 | h1
      · exact h1
      · rw [List.getElem?_eq_none h1] at h; cases h
    rw [Array.getElem?_append_left (by omega), Array.getElem?_eq_getElem (by omega)]
    exact ha.2 t v _ h (Array.getElem?_eq_getElem (by omega))
  | none =>
    have htl : args.length ≤ t := by
      rcases Nat.lt_or_ge t args.length with h1 | h1
      · rw [List.getElem?_eq_getElem h1] at h; cases h
      · exact h1
    rw [Array.getElem?_append_right (by omega), Array.getElem?_replicate, if_pos (by omega)]
    simp only [hu, Option.getD_some]
    exact Rv.und
def resF (tmps : Array Value) : ResultVar → Sem Value
  | .tmp t => pure (tmps.getD t undef)
  | .cell a t => do loadVar t (← asAddr (tmps.getD a undef))
theorem eRess_ok (B : Base E.D P) {nt : Nat} {T : Tr Value} {tmps : Array Value} (hM : Rm P ρ A M w) (hT : Rt ρ A nt T tmps) : ∀ (rs : List ResultVar) (vs : List Value), eRess E T M rs = some vs → rs.all (fitR nt) = true →
    ∃ vs' : List Value, (rs.mapM (resF tmps)).run P w = .ok vs' w ∧ vs.length = vs'.length ∧ ∀ (j : Nat) (y y' : Value), vs[j]? = some y → vs'[j]? = some y' → Rv ρ A y y'
  | [], vs, h, _ => by
    have e : eRess E T M [] = some [] := rfl
    rw [e] at h
    injection h with h
    subst h
    exact ⟨[], by simp only [List.mapM_nil, Sem.run_pure], rfl, fun j y y' h1 _ => by simp at h1⟩
  | r :: rs, vs, h, hf => by
    have e : eRess E T M (r :: rs) = match eRes E T M r, eRess E T M rs with | some v, some vs => some (v :: vs) | _, _ => none := rfl
    rw [e] at h
    rw [List.all_cons, Bool.and_eq_true] at hf
    split at h
    · rename_i v vs1 h1 h2
      injection h with h
      subst h
      obtain ⟨vs', h3, h4, h5⟩ := eRess_ok B hM hT rs vs1 h2 hf.2
      have hone : ∃ v', (resF tmps r).run P w = .ok v' w ∧ Rv ρ A v v' := by
        cases r with
        | tmp t =>
          have e1 : eRes E T M (.tmp t) = some (tget T t) := rfl
          rw [e1] at h1
          injection h1 with h1
          subst h1
          exact ⟨_, rfl, hT.val t (by simpa [fitR, Nat.blt_eq] using hf.1)⟩
        | cell a t =>
          have e1 : eRes E T M (.cell a t) = eLoadAt E.D t (tget T a) M := rfl
          rw [e1] at h1
          have hv := hT.val a (by simpa [fitR, Nat.blt_eq] using hf.1)
          unfold eLoadAt at h1
          split at h1
          · rename_i b o heq
            rw [heq] at hv
            split at h1
            · rename_i cs e2 hb
              generalize hq : tmps.getD a undef = q at hv
              cases hv with
              | ptr _ _ hlt =>
                obtain ⟨c', fz, hw, hs, hc, hz, _⟩ := hM.row hb
                obtain ⟨v', h6, h7⟩ := eLoad_ok B.ok h1 hw hs hc
                exact ⟨v', by simp only [resF]; rw [Sem.run_bind]; rw [hq]; simp only [asAddr, Sem.run_pure, Result.andThen_ok]; exact h6, h7⟩
            · cases h1
          · cases h1
      obtain ⟨v', h6, h7⟩ := hone
      refine ⟨v' :: vs', ?_, by simp [h4], fun j y y' h8 h9 => ?_⟩
      · rw [List.mapM_cons, Sem.run_bind, h6]
        simp only [Result.andThen_ok, Sem.run_bind, h3, Sem.run_pure]
      · cases j with
        | zero =>
          simp at h8 h9
          subst h8 h9
          exact h7
        | succ j => exact h5 j y y' (by simpa using h8) (by simpa using h9)
    · cases h
theorem eResult_ok (B : Base E.D P) {nt : Nat} {T : Tr Value} {tmps : Array Value} (hM : Rm P ρ A M w) (hT : Rt ρ A nt T tmps) {fn : Func} {v : Value} (h : eResult E T M fn.results.toList = some v) (hf : fn.results.toList.all (fitR nt) = true) : ∃ v', (results fn tmps).run P w = .ok v' w ∧ Rv ρ A v v' := by
  unfold eResult at h
  cases hr : eRess E T M fn.results.toList with
  | none => rw [hr] at h; cases h
  | some vs =>
    rw [hr] at h
    obtain ⟨vs', h1, h2, h3⟩ := eRess_ok B hM hT _ vs hr hf
    have hres : results fn tmps = (do let vs ← fn.results.mapM (resF tmps); pure (if h : vs.size = 1 then vs[0] else .tuple vs)) := by
      unfold results
      congr 1
    rw [hres, Array.mapM_eq_mapM_toList]
    have hm : ∀ m : Sem (List Value), (Functor.map List.toArray m) = (m >>= fun a => pure a.toArray) := fun m => rfl
    rw [hm]
    simp only [Sem.run_bind, h1, Result.andThen_ok, Sem.run_pure]
    have harr : AsR ρ A vs vs'.toArray := ⟨by simpa using h2, fun j y y' h4 h5 => h3 j y y' h4 (by simpa using h5)⟩
    have htup : vs.length ≠ 1 → some (Value.tuple vs.toArray) = some v → ∃ v', Result.ok (if h : vs'.toArray.size = 1 then vs'.toArray[0] else Value.tuple vs'.toArray) w = Result.ok v' w ∧ Rv ρ A v v' := by
      intro hl hv
      injection hv with hv
      subst hv
      refine ⟨_, rfl, ?_⟩
      rw [dif_neg (by simp; omega)]
      refine .tuple _ _ (by simp; omega) (fun i hi => ?_)
      have hi2 : i < vs.length := by simpa using hi
      have hi3 : i < vs'.length := by omega
      have := h3 i vs[i] vs'[i] (List.getElem?_eq_getElem hi2) (List.getElem?_eq_getElem hi3)
      rw [Array.getD_eq_getD_getElem?, Array.getD_eq_getD_getElem?]
      simpa [hi2, hi3] using this
    match vs, h, htup, h2, h3 with
    | [], h, htup, _, _ => exact htup (by simp) h
    | [x], h, htup, h2, h3 =>
      injection h with h
      subst h
      obtain ⟨x', hx'⟩ := List.length_eq_one_iff.mp h2.symm
      subst hx'
      exact ⟨x', rfl, h3 0 x x' rfl rfl⟩
    | x :: y :: r, h, htup, _, _ => exact htup (by simp) h
/-! ### Calls -/
theorem bodyS_some {f : FuncId} {args : List Value} {cf : CFn} {s : CS} (h : bodyS E rc f args M = some (cf, s)) : E.fns.get f = some cf ∧ args.length ≤ cf.cx.nt ∧ ∃ ex, (ex = .normal ∨ ex = .ret) ∧ rc cf.cx none cf.body ⟨argT cf.cx.nt args 0 .nil, M, []⟩ = some (ex, s) := by
  unfold bodyS at h
  split at h
  · rename_i cf' hf
    cases hb : Nat.ble args.length cf'.cx.nt <;> rw [hb] at h
    · cases h
    · simp only [cond_true] at h
      rw [Nat.ble_eq] at hb
      split at h
      · rename_i s1 hs
        injection h with h
        injection h with h1 h2
        subst h1 h2
        exact ⟨hf, hb, _, Or.inl rfl, hs⟩
      · rename_i s1 hs
        injection h with h
        injection h with h1 h2
        subst h1 h2
        exact ⟨hf, hb, _, Or.inr rfl, hs⟩
      · cases h
  · cases h
/-- the walk of a function's body -/
theorem bodyS_ok (H : EnvOk E P) (C : SoundC E P rc) {f : FuncId} {args : List Value} {args' : Array Value} {cf : CFn} {s : CS} (h : bodyS E rc f args M = some (cf, s)) (hM : Rm P ρ A M w) (hG : GOK ρ A E.G) (ha : AsR ρ A args args') :
    ∃ fn, P.funcs[f]? = some fn ∧ fn.body = some cf.body ∧ FnOk E P f cf ∧ fn.results.toList = cf.res ∧ cf.body.wpIn Fence.wide 0 P (fun e a' w' => (e = .normal ∨ e = .ret) ∧ ∃ ρ' A', St P ρ A M w ρ' A' s.M w' ∧ Rt ρ' A' cf.cx.nt s.T a'.tmps ∧ DfR ρ' A' s.df a'.defers) { tmps := args' ++ Array.replicate (fn.ntmps - args'.size) undef, defers := [] } w := by
  obtain ⟨h1, h2, ex, h3, h4⟩ := bodyS_some h
  have hok := H.fns f cf h1
  obtain ⟨fn, q1, q2, q3, q4, q5⟩ := hok.fn
  refine ⟨fn, q1, q2, hok, q5, ?_⟩
  rw [q4]
  refine wpIn_mono (C cf.cx none cf.body _ ex s h4 hok.fit hok.nt ρ A _ w Fence.wide .wide rfl hG hM (entry_ok hok.nt ha h2) .nil) (fun e a' w' he => ?_)
  obtain ⟨h5, ρ', A', h6⟩ := he
  refine ⟨?_, ρ', A', h6⟩
  rcases h3 with rfl | rfl
  · exact Or.inl h5
  · exact Or.inr h5
theorem dcall_ok (H : EnvOk E P) (C : SoundC E P rc) {f : FuncId} {args : List Value} {args' : Array Value} (h : dcall E rc f args M = some M') (hM : Rm P ρ A M w) (hG : GOK ρ A E.G) (ha : AsR ρ A args args') :
    (callFunc f args').run P w = .ok (.enter f args') w ∧ ∀ u, CallsDIn Fence.wide 0 P f args' u w fun e u' w' => u' = u ∧ ∃ v, e = .returned v ∧ ∃ ρ' A', St P ρ A M w ρ' A' M' w' := by
  unfold dcall at h
  split at h
  · rename_i cf s hb
    obtain ⟨fn, q1, q2, q3, q4, q5⟩ := bodyS_ok H C hb hM hG ha
    split at h
    · rename_i v hdf hres
      injection h with h
      subst h
      refine ⟨q3.enters args' w, fun u => callsDIn_of_wp (R := fun e w' => ∃ v, e = .returned v ∧ ∃ ρ' A', St P ρ A M w ρ' A' s.M w') q1 q2 trivial (wpIn_mono q5 fun e a' w' he => ?_)⟩
      obtain ⟨he, ρ', A', h1, h2, h3⟩ := he
      rw [hdf] at h3
      rw [← q4] at hres
      have hf := q3.res
      rw [← q4] at hf
      obtain ⟨v', h4, h5⟩ := eResult_ok H.base h1.mem h2 hres hf
      have hnil : a'.defers = [] := by
        generalize a'.defers = q at h3
        cases h3
        rfl
      rcases he with rfl | rfl
      · exact ⟨hnil, v', h4, v', rfl, ρ', A', h1⟩
      · exact ⟨hnil, v', h4, v', rfl, ρ', A', h1⟩
    · cases h
  · cases h
theorem r_take {r : Nat} (hw : w.heap[r]? = some (.deferred (some []))) : (Instr.takeDeferred r).run P w = .ok [] { w with heap := w.heap.setIfInBounds r (.deferred none) } := by
  simp [Instr.takeDeferred, Sem.run_bind, getObj, setObj, Sem.run, hw, Result.andThen]
theorem leave_ok (H : EnvOk E P) (C : SoundC E P rc) {ρ0 : Ren} {A0 : Nat → Prop} {M0 : Mem} {w0 : World} (hG0 : GOK ρ0 A0 E.G) {nt : Nat} {T : Tr Value} {fn : Func} {tmps : Array Value} {v : Value} (hf : fn.results.toList.all (fitR nt) = true) {M2 : Mem} (hres : eResult E T M2 fn.results.toList = some v) :
    ∀ (ds : List CDef) (ds' : List Deferred) (M : Mem) (ρ : Ren) (A : Nat → Prop) (w : World), leave E rc ds M = some M2 → DfR ρ A ds ds' → Rt ρ A nt T tmps → St P ρ0 A0 M0 w0 ρ A M w →
      LeavesInM Fence.wide 0 P fn tmps (fun | .returned v', w' => RetV P ρ0 A0 M0 w0 v M2 v' w' | _, _ => False) ds' .returning w := by
  intro ds
  induction ds with
  | nil =>
    intro ds' M ρ A w h hdf hT hst
    cases hdf
    have e : leave E rc [] M = some M := rfl
    rw [e] at h
    injection h with h
    subst h
    obtain ⟨v', h1, h2⟩ := eResult_ok H.base hst.mem hT hres hf
    exact ⟨v', h1, ρ, A, h2, hst⟩
  | cons d ds ih =>
    intro ds'' M ρ A w h hdf hT hst
    cases hdf with
    | cons _ d' _ ds' hd hs =>
      cases hd with
      | mark r hr =>
        have e : leave E rc (.mark r :: ds) M = match M.get r with | some (.deferred (some ())) => leave E rc ds (M.upd r (.deferred none)) | _ => none := rfl
        rw [e] at h
        split at h
        · rename_i hg
          obtain ⟨o', h1, h2, _⟩ := hst.mem.obj r _ hg
          cases h2
          have hst2 := St.upd hst.mem hg (o := .deferred none) (o' := .deferred none) .deferred0 trivial
          exact ⟨by simp, Or.inl ⟨(ρ r).1, _, rfl, r_take h1, ih ds' _ ρ A _ h hs hT (hst.trans hst2)⟩⟩
        · cases h
      | fn fn0 fn' cap args cap' args' hfn hc ha =>
        have e : leave E rc (.fn fn0 cap args :: ds) M = match eInvoke E.D fn0 cap args with
          | some (.enter f as) => (match dcall E rc f as M with | some M' => leave E rc ds M' | none => none)
          | _ => none := rfl
        rw [e] at h
        split at h
        · rename_i f as hi
          split at h
          · rename_i M' hd
            rcases eInvoke_ok H.base hi hfn hc ha with ⟨f2, as2, as', e2, h4, h5⟩ | ⟨l2, e2, _, _⟩
            · injection e2 with e2 e3
              subst e2 e3
              obtain ⟨h6, h7⟩ := dcall_ok H C hd hst.mem (hst.gok hG0) h5
              refine ⟨by simp, Or.inr ⟨fun hx => (by cases hx), fn', cap', f, as', rfl, by rw [h4]; exact h6, fun _ _ => trivial, (h7 .returning).mono (fun e u' w' he => ?_)⟩⟩
              obtain ⟨rfl, v', rfl, ρ', A', hS⟩ := he
              exact ih ds' M' ρ' A' w' h (hs.up hS.up hS.agree) (hT.up hS.up hS.agree) (hst.trans hS)
            · cases e2
          · cases h
        · cases h
theorem callS_ok (H : EnvOk E P) (C : SoundC E P rc) : SoundF E P (callS E rc) := by
  intro f args M v M' h ρ A args' w hM hG ha
  unfold callS at h
  split at h
  · rename_i cf s hb
    obtain ⟨fn, q1, q2, q3, q4, q5⟩ := bodyS_ok H C hb hM hG ha
    refine ⟨q3.enters args' w, callsIn_of_wp_marks q1 q2 trivial (wpIn_mono q5 fun e a' w' he => ?_)⟩
    split at h
    · rename_i M2 hl
      split at h
      · rename_i v2 hres
        injection h with h
        injection h with h1 h2
        subst h1 h2
        obtain ⟨he, ρ', A', h1, h2, h3⟩ := he
        rw [← q4] at hres
        have hf := q3.res
        rw [← q4] at hf
        have := leave_ok H C hG hf hres s.df a'.defers s.M ρ' A' w' hl h3 h2 h1
        rcases he with rfl | rfl
        · exact this
        · exact this
      · cases h
    · cases h
  · cases h

/-! ### The whole -/
theorem run_ok (H : EnvOk E P) : ∀ n, SoundC E P (run E n).1 ∧ SoundF E P (run E n).2 := by
  intro n
  induction n using Nat.strongRecOn with
  | _ n ih =>
    cases n with
    | zero => exact ⟨fun cx ro c s ex s' h => (by cases h), fun f args M v M' h => (by cases h)⟩
    | succ n =>
      have ihn := ih n (Nat.lt_succ_self n)
      refine ⟨fun cx ro c s ex s' h hfit hn ρ A a w F hF hro hG hM hT hD => ?_, callS_ok H ihn.1⟩
      by_cases hl : ∃ b, c = .loop b
      · obtain ⟨b, rfl⟩ := hl
        refine wpIn_loop_rec (fun m a w' => m ≤ n + 1 ∧ ∃ s1, (run E m).1 cx ro (.loop b) s1 = some (ex, s') ∧ ∃ ρ1 A1, St P ρ A s.M w ρ1 A1 s1.M w' ∧ Rt ρ1 A1 cx.nt s1.T a.tmps ∧ DfR ρ1 A1 s1.df a.defers) (m := n + 1) ⟨Nat.le_refl _, s, h, ρ, A, .refl hM, hT, hD⟩ ?_
        rintro m a1 w1 ⟨hm, s1, h1, ρ1, A1, hS1, hT1, hD1⟩
        cases m with
        | zero => cases h1
        | succ m =>
          have ihm := (ih m (by omega)).1
          have e : (run E (m + 1)).1 cx ro (.loop b) s1 = match (run E m).1 cx ro b s1 with
            | some (.normal, s1) => (run E m).1 cx ro (.loop b) s1
            | some (.exit id, s1) => some (.exit id, s1)
            | some (.ret, s1) => some (.ret, s1)
            | none => none := rfl
          rw [e] at h1
          have hfb : fitC E.G cx b = true := hfit
          split at h1
          · rename_i s2 hs2
            refine wpIn_mono (ihm cx ro b s1 _ s2 hs2 hfb hn ρ1 A1 a1 w1 F hF (hro.up hS1.up hS1.agree) (hS1.gok hG) hS1.mem hT1 hD1) (fun e a2 w2 he => ?_)
            obtain ⟨rfl, ρ2, A2, h2, h3, h4⟩ := he
            exact ⟨m, Nat.lt_succ_self m, by omega, s2, h1, ρ2, A2, hS1.trans h2, h3, h4⟩
          · rename_i id s2 hs2
            simp only [Option.some.injEq, Prod.mk.injEq] at h1
            obtain ⟨rfl, rfl⟩ := h1
            refine wpIn_mono (ihm cx ro b s1 _ s2 hs2 hfb hn ρ1 A1 a1 w1 F hF (hro.up hS1.up hS1.agree) (hS1.gok hG) hS1.mem hT1 hD1) (fun e a2 w2 he => ?_)
            obtain ⟨rfl, ρ2, A2, h2, h3, h4⟩ := he
            exact ⟨rfl, ρ2, A2, hS1.trans h2, h3, h4⟩
          · rename_i s2 hs2
            simp only [Option.some.injEq, Prod.mk.injEq] at h1
            obtain ⟨rfl, rfl⟩ := h1
            refine wpIn_mono (ihm cx ro b s1 _ s2 hs2 hfb hn ρ1 A1 a1 w1 F hF (hro.up hS1.up hS1.agree) (hS1.gok hG) hS1.mem hT1 hD1) (fun e a2 w2 he => ?_)
            obtain ⟨rfl, ρ2, A2, h2, h3, h4⟩ := he
            exact ⟨rfl, ρ2, A2, hS1.trans h2, h3, h4⟩
          · cases h1
      · exact codeS_ok H ihn.1 ihn.2 h (fun b hb => hl ⟨b, hb⟩) hfit hn hF hro hG hM hT hD
end
end Go.Proofs.YtepmjghgnhklfaaGreatDoor.det
namespace Go.Proofs.YtepmjghgnhklfaaGreatDoor.det
open Go Go.RowKit

section
variable {E : Env} {P : Program} {ρ ρ' : Ren} {A A' : Nat → Prop} {M M' : Mem} {w w' : World}
theorem St.below (hM : Rm P ρ A M w) (hb : Below w.heap.size w w') : St P ρ A M w ρ A M w' :=
  ⟨fun _ _ => rfl, fun _ h => h, fun _ h => Or.inl h, Nat.le_refl _, rfl,
   ⟨hM.inj, fun a o ha => by
      obtain ⟨o', h1, h2⟩ := hM.obj a o ha
      exact ⟨o', by rw [hb.block _ (hM.block_lt ha)]; exact h1, h2⟩, hM.live, hM.sub, hM.small, hM.lim⟩,
   hb.size, hb.tape, hb.os, hb.output, fun b hlt _ => hb.block b hlt, fun n o h => Or.inr ⟨n, o, h, rfl⟩⟩
/-- a slice of bytes that is read -/
noncomputable def eRB (M : Mem) (x : Value) : Option (List UInt8) :=
  match x with
  | .slice (some ⟨b, o, none⟩) n _ => (match eCells M b with | some (cs, _) => bif Nat.ble (Nat.add o n) cs.length then eBytes ((cs.drop o).take n) else none | none => none)
  | .slice (some ⟨b, o, some 0⟩) n _ => (match eCells M b with | some (cs, _) => bif Nat.ble (Nat.add o n) cs.length then eBytes ((cs.drop o).take n) else none | none => none)
  | .slice _ 0 _ => some []
  | _ => none
/-- the bytes of a slice, in the machine -/
def RBs (w : World) (a : Option Addr) (l : List UInt8) : Prop := 0 < l.length → ∃ b off, a = some ⟨b, off, none⟩ ∧ b < w.heap.size ∧ ∀ j (h : j < l.length), w.cell? ⟨b, off + j, none⟩ = some (.int .u8 (l[j].toNat : Int))
theorem eBytes_len : ∀ (cs : List Value) (l : List UInt8), eBytes cs = some l → cs.length = l.length := fun cs l h => by
  rw [eBytes_eq cs l h]; simp
theorem eRB_ok {x x' : Value} {l : List UInt8} (h : eRB M x = some l) (hM : Rm P ρ A M w) (hx : Rv ρ A x x') : ∃ a c, x' = .slice a l.length c ∧ RBs w a l := by
  have row : ∀ (b o n : Nat), (match eCells M b with | some (cs, _) => bif Nat.ble (Nat.add o n) cs.length then eBytes ((cs.drop o).take n) else none | none => none) = some l → l.length = n ∧ RBs w (some ⟨(ρ b).1, o, none⟩) l := by
    intro b o n h
    split at h
    · rename_i cs e hb
      cases hle : Nat.ble (Nat.add o n) cs.length <;> rw [hle] at h
      · cases h
      · simp only [cond_true] at h
        rw [Nat.ble_eq] at hle
        have hle' : o + n ≤ cs.length := hle
        have hl := eBytes_len _ _ h
        have he := eBytes_eq _ _ h
        rw [List.length_take, List.length_drop] at hl
        obtain ⟨c', fz, hw, hs, hc, hz, _⟩ := hM.row hb
        refine ⟨by omega, fun _ => ⟨(ρ b).1, o, rfl, hM.block_lt (eCells_some hb), fun j hj => ?_⟩⟩
        have hjo : o + j < cs.length := by omega
        rw [cell_of hw (by omega)]
        have h1 : ((cs.drop o).take n)[j]? = some cs[o + j] := by
          rw [List.getElem?_take, if_pos (by omega), List.getElem?_drop, List.getElem?_eq_getElem hjo]
        rw [he] at h1
        simp only [List.map_map, List.getElem?_map, List.getElem?_eq_getElem hj, Option.map_some, Option.some.injEq, Function.comp_apply] at h1
        have h2 := hc (o + j) cs[o + j] (List.getElem?_eq_getElem hjo)
        rw [← h1] at h2
        generalize c'.getD (o + j) undef = q at h2
        cases h2
        rfl
    · cases h
  unfold eRB at h
  split at h
  · rename_i b o n c
    obtain ⟨h1, h2⟩ := row b o n h
    cases hx
    exact ⟨_, _, by rw [h1], h2⟩
  · rename_i b o n c
    obtain ⟨h1, h2⟩ := row b o n h
    cases hx
    exact ⟨_, _, by rw [h1], h2⟩
  · injection h with h
    subst h
    cases hx <;> exact ⟨_, _, rfl, fun h => by simp at h⟩
  · cases h

/-! ### Sums of bytes -/
def crcStep (n : Nat) : Nat := bif Nat.beq (Nat.mod n 2) 1 then Nat.xor (Nat.div n 2) 2197175160 else Nat.div n 2
def crcTab (i : Nat) : Nat := crcStep (crcStep (crcStep (crcStep i)))
def crcNib (y : Nat) : Nat := Nat.xor (crcTab (Nat.mod y 16)) (Nat.div y 16)
def crcByte (x c : Nat) : Nat := crcNib (crcNib (Nat.xor x c))
def crcAll : List UInt8 → Nat → Nat
  | [], x => x
  | c :: l, x => crcAll l (crcByte x c.toNat)
def crcExt (s : Nat) (l : List UInt8) : Nat := Nat.xor 4294967295 (crcAll l (Nat.xor 4294967295 s))
noncomputable def extendS : Sum := fun args M =>
  match args with
  | [.int .u32 (.ofNat s), x] => (match eRB M x with | some l => bif Nat.blt s 4294967296 && Nat.ble l.length 9223372036854775807 then some (.int .u32 (.ofNat (crcExt s l)), M) else none | none => none)
  | _ => none
noncomputable def sumS : Sum := fun args M =>
  match args with
  | [x] => (match eRB M x with | some l => bif Nat.ble l.length 9223372036854775807 then some (.int .u32 (.ofNat (crcExt 0 l)), M) else none | none => none)
  | _ => none
theorem extendS_ok {f : FuncId} (hf : ∀ (args' : Array Value) (w : World), (callFunc f args').run P w = .ok (.enter f args') w)
    (hC : ∀ (s : Nat), s < 4294967296 → ∀ (l : List UInt8), l.length ≤ 9223372036854775807 → ∀ (a : Option Addr) (c : Nat) (w : World), RBs w a l → Calls P f #[.int .u32 (s : Int), .slice a l.length c] w fun e w' => e = .returned (.int .u32 ((crcExt s l : Nat) : Int)) ∧ Below w.heap.size w w') :
    ∀ (args : List Value) (M : Mem) (v : Value) (M' : Mem), extendS args M = some (v, M') → ∀ (ρ : Ren) (A : Nat → Prop) (args' : Array Value) (w : World), Rm P ρ A M w → AsR ρ A args args' → Goes P f args' w (RetV P ρ A M w v M') := by
  intro args M v M' h ρ A args' w hM ha
  unfold extendS at h
  split at h
  · rename_i s x
    split at h
    · rename_i l hl
      cases hb : (Nat.blt s 4294967296 && Nat.ble l.length 9223372036854775807) <;> rw [hb] at h
      · cases h
      · simp only [cond_true, Option.some.injEq, Prod.mk.injEq] at h
        obtain ⟨rfl, rfl⟩ := h
        rw [Bool.and_eq_true, Nat.blt_eq, Nat.ble_eq] at hb
        obtain ⟨s', x', rfl, h1, h2⟩ := ha.two
        cases h1
        obtain ⟨a, c, rfl, h3⟩ := eRB_ok hl hM h2
        refine Or.inl ⟨hf _ _, callsIn_wide.mpr ((hC s hb.1 l hb.2 a c w h3).mono fun e w' he => ?_)⟩
        obtain ⟨rfl, hbel⟩ := he
        exact ⟨ρ, A, .int _ _, St.below hM hbel⟩
    · cases h
  · cases h
theorem sumS_ok {f : FuncId} (hf : ∀ (args' : Array Value) (w : World), (callFunc f args').run P w = .ok (.enter f args') w)
    (hC : ∀ (l : List UInt8), l.length ≤ 9223372036854775807 → ∀ (a : Option Addr) (c : Nat) (w : World), RBs w a l → Calls P f #[.slice a l.length c] w fun e w' => e = .returned (.int .u32 ((crcExt 0 l : Nat) : Int)) ∧ Below w.heap.size w w') :
    ∀ (args : List Value) (M : Mem) (v : Value) (M' : Mem), sumS args M = some (v, M') → ∀ (ρ : Ren) (A : Nat → Prop) (args' : Array Value) (w : World), Rm P ρ A M w → AsR ρ A args args' → Goes P f args' w (RetV P ρ A M w v M') := by
  intro args M v M' h ρ A args' w hM ha
  unfold sumS at h
  split at h
  · rename_i x
    split at h
    · rename_i l hl
      cases hb : Nat.ble l.length 9223372036854775807 <;> rw [hb] at h
      · cases h
      · simp only [cond_true, Option.some.injEq, Prod.mk.injEq] at h
        obtain ⟨rfl, rfl⟩ := h
        rw [Nat.ble_eq] at hb
        obtain ⟨x', rfl, h2⟩ := ha.one
        obtain ⟨a, c, rfl, h3⟩ := eRB_ok hl hM h2
        refine Or.inl ⟨hf _ _, callsIn_wide.mpr ((hC l hb a c w h3).mono fun e w' he => ?_)⟩
        obtain ⟨rfl, hbel⟩ := he
        exact ⟨ρ, A, .int _ _, St.below hM hbel⟩
    · cases h
  · cases h
/-- a function that answers a text with one value -/
noncomputable def textS (p : List UInt8 → Option Value) : Sum := fun args M =>
  match args with
  | [.string s] => (match p (bl s) with | some v => some (v, M) | none => none)
  | _ => none
theorem textS_ok {f : FuncId} {p : List UInt8 → Option Value} (hf : ∀ (args' : Array Value) (w : World), (callFunc f args').run P w = .ok (.enter f args') w)
    (hC : ∀ (s : ByteArray) (v : Value), p (bl s) = some v → plain 9 v = true ∧ ∀ w, Calls P f #[.string s] w fun e w' => e = .returned v ∧ Below w.heap.size w w') :
    ∀ (args : List Value) (M : Mem) (v : Value) (M' : Mem), textS p args M = some (v, M') → ∀ (ρ : Ren) (A : Nat → Prop) (args' : Array Value) (w : World), Rm P ρ A M w → AsR ρ A args args' → Goes P f args' w (RetV P ρ A M w v M') := by
  intro args M v M' h ρ A args' w hM ha
  unfold textS at h
  split at h
  · rename_i s
    split at h
    · rename_i v0 hp
      simp only [Option.some.injEq, Prod.mk.injEq] at h
      obtain ⟨rfl, rfl⟩ := h
      obtain ⟨x', rfl, h2⟩ := ha.one
      cases h2
      obtain ⟨h3, h4⟩ := hC s v0 hp
      refine Or.inl ⟨hf _ _, callsIn_wide.mpr ((h4 w).mono fun e w' he => ?_)⟩
      obtain ⟨rfl, hbel⟩ := he
      exact ⟨ρ, A, plain_rv 9 _ h3, St.below hM hbel⟩
    · cases h
  · cases h
/-- is it a name? all letters at once -/
def okB (n : Nat) : Bool := (Nat.ble 97 n && Nat.ble n 122) || (Nat.ble 48 n && Nat.ble n 57) || Nat.beq n 46 || Nat.beq n 45 || Nat.beq n 95
def goodB : List UInt8 → Bool
  | [] => true
  | c :: l => bif okB c.toNat then goodB l else false
def goodP (l : List UInt8) : Option Value :=
  match l with
  | c :: r => bif Nat.ble r.length 31 && not (Nat.beq c.toNat 46) && not (Nat.beq c.toNat 45) && not (Nat.beq c.toNat 95) && goodB (c :: r) then some (.bool true) else none
  | [] => none
end
end Go.Proofs.YtepmjghgnhklfaaGreatDoor.det
namespace Go.Proofs.YtepmjghgnhklfaaGreatDoor.det
open Go Go.RowKit

/-! ### A fact about each entry of a tree -/
def Tr.Al {α : Type} (p : Nat → α → Prop) : Nat → Nat → Tr α → Prop
  | _, _, .nil => True
  | a, s, .node l v r => (∀ x, v = some x → p a x) ∧ Tr.Al p (a + s) (2 * s) l ∧ Tr.Al p (a + 2 * s) (2 * s) r
theorem Tr.Al.get {α : Type} {p : Nat → α → Prop} : ∀ {t : Tr α} {a s n : Nat} {x : α}, Tr.Al p a s t → t.get n = some x → p (a + s * n) x
  | .nil, _, _, _, _, _, h => by rw [Tr.get_nil] at h; cases h
  | .node l v r, a, s, n, x, hA, h => by
    rw [Tr.get_node, Tr.beq_dec, Tr.beq_dec] at h
    by_cases h0 : n = 0
    · rw [decide_eq_true h0, cond_true] at h
      subst h0
      exact hA.1 x h
    · rw [decide_eq_false h0, cond_false] at h
      by_cases h1 : n % 2 = 1
      · rw [decide_eq_true h1, cond_true] at h
        have := hA.2.1.get h
        have e : a + s + 2 * s * (n / 2) = a + s * n := by
          have e1 : n = 2 * (n / 2) + 1 := by omega
          generalize n / 2 = m at e1
          subst e1
          rw [Nat.mul_add, Nat.mul_one, ← Nat.mul_assoc, Nat.mul_comm s 2]
          omega
        rwa [e] at this
      · rw [decide_eq_false h1, cond_false] at h
        have := hA.2.2.get h
        have e : a + 2 * s + 2 * s * (n / 2 - 1) = a + s * n := by
          have e1 : n = 2 * (n / 2 - 1) + 2 := by omega
          generalize n / 2 - 1 = m at e1
          subst e1
          rw [Nat.mul_add, ← Nat.mul_assoc, Nat.mul_comm s 2]
          omega
        rwa [e] at this
theorem Tr.Al.get0 {α : Type} {p : Nat → α → Prop} {t : Tr α} {n : Nat} {x : α} (h : Tr.Al p 0 1 t) (hg : t.get n = some x) : p n x := by
  have := h.get hg
  rwa [Nat.zero_add, Nat.one_mul] at this
/-- the tables of a program's types -/
noncomputable def datOf (tis : Tr TypeInfo) (eqs : Tr Unit) : Dat :=
  ⟨fun t => tis.get t, fun t => match tis.get t with | some i => (match i.desc with | .named _ u => (match tis.get u with | some j => some j.desc | none => none) | d => some d) | none => none, fun t => match eqs.get t with | some _ => true | none => false, fun _ => none⟩
theorem datOf_ok {P : Program} {tis : Tr TypeInfo} {eqs : Tr Unit} (h : Tr.Al (fun t i => P.info? t = some i) 0 1 tis)
    (he : Tr.Al (fun t _ => P.eqGuardType P.depth t = false ∧ P.stoodInHeld t = false ∧ ∀ fs, P.underlying t = some (.struct fs) → ∀ f ∈ fs, f.name ≠ "_") 0 1 eqs) : DatOk (datOf tis eqs) P := by
  refine ⟨fun t i hi => h.get0 hi, fun t d hd => ?_, fun t ht => ?_, fun f F hF => by cases hF⟩
  · simp only [datOf] at hd
    split at hd
    · rename_i i hi
      have h1 := h.get0 hi
      unfold Program.underlying
      rw [h1]
      split at hd
      · rename_i nm u hdesc
        split at hd
        · rename_i j hj
          injection hd with hd
          have h2 := h.get0 hj
          obtain ⟨desc, a2, a3, a4, a5, a6, a7, a8, a9, a10⟩ := i
          simp only at hdesc
          subst hdesc
          simp only [h2, Option.map_some, hd]
        · cases hd
      · rename_i hne
        injection hd with hd
        obtain ⟨desc, a2, a3, a4, a5, a6, a7, a8, a9, a10⟩ := i
        simp only at hd hne
        subst hd
        cases desc <;> first | rfl | exact absurd rfl (hne _ _)
    · cases hd
  · simp only [datOf] at ht
    split at ht
    · rename_i u hu
      exact he.get0 hu
    · cases ht
theorem datOf_z {tis : Tr TypeInfo} {eqs : Tr Unit} (h : Tr.Al (fun _ i => (match i.zero with | some z => plain 9 z | none => true) = true) 0 1 tis) : DatZ (datOf tis eqs) :=
  ⟨fun t i z hi hz => by
    have := h.get0 hi
    rw [hz] at this
    exact this⟩

/-! ### Functions that the machine answers itself -/
section
variable {P : Program} {ρ : Ren} {A : Nat → Prop} {M : Mem} {w : World}
theorem ext_run {f : FuncId} {fn : Func} {e : Array Value → Sem Value} (hf : P.funcs[f]? = some fn) (hn : (fn.name == "runtime.NumGoroutine") = false) (hb : fn.body = none) (h1 : (Extern.findNext fn).isNone = true) (h2 : Extern.find fn = some e) {args : Array Value} {v : Value} (hr : (e args).run P w = .ok v w) :
    (callFunc f args).run P w = .ok (.value v) w := by
  have h1' : Extern.findNext fn = none := by simpa using h1
  simp only [callFunc, Sem.run_bind, run_program, Result.andThen_ok, hf, hn, hb, Option.isNone_none, if_true, Bool.false_eq_true, if_false, h1', h2, Sem.run_pure]
  have hm : ∀ m, (mark m).run P w = .ok () w := fun _ => rfl
  rw [hm, Result.andThen_ok, hr, Result.andThen_ok]
def cntB (c : Nat) : List UInt8 → Nat → Nat
  | [], n => n
  | b :: l, n => cntB c l (bif Nat.beq b.toNat c then Nat.succ n else n)
theorem u8_eq {b c : UInt8} : Nat.beq b.toNat c.toNat = (b == c) := by
  rw [Bool.eq_iff_iff, Nat.beq_eq, beq_iff_eq]
  exact ⟨fun h => UInt8.toNat_inj.mp h, fun h => by rw [h]⟩
theorem cntB_eq (c : UInt8) : ∀ (l : List UInt8) (n : Nat), cntB c.toNat l n = n + l.count c
  | [], n => by simp [cntB]
  | b :: l, n => by
    unfold cntB
    rw [cntB_eq c l, u8_eq, List.count_cons]
    cases b == c <;> simp <;> omega
def idxB (c : Nat) : List UInt8 → Nat → Option Nat
  | [], _ => none
  | b :: l, n => bif Nat.beq b.toNat c then some n else idxB c l (Nat.succ n)
theorem idxB_eq (c : UInt8) : ∀ (l : List UInt8) (n : Nat), (match idxB c.toNat l n with | some k => (k : Int) - n | none => -1) = Lib.indexByte l c ∧ ∀ k, idxB c.toNat l n = some k → n ≤ k
  | [], n => ⟨rfl, fun k h => by cases h⟩
  | b :: l, n => by
    unfold idxB Lib.indexByte
    rw [u8_eq]
    cases hb : b == c
    · obtain ⟨h1, h2⟩ := idxB_eq c l (Nat.succ n)
      simp only [cond_false, Bool.false_eq_true, if_false]
      cases hk : idxB c.toNat l (Nat.succ n) with
      | none =>
        rw [hk] at h1
        simp only at h1
        rw [← h1]
        exact ⟨rfl, fun k h => by cases h⟩
      | some k =>
        rw [hk] at h1
        have h3 := h2 k hk
        simp only at h1
        have h4 : ¬ (Lib.indexByte l c = -1) := by omega
        have h5 : (Lib.indexByte l c == -1) = false := by simpa using h4
        rw [h5]
        simp only [Bool.false_eq_true, if_false]
        refine ⟨?_, fun k' h => ?_⟩
        · rw [← h1]; omega
        · injection h with h; omega
    · simp only [cond_true, if_true]
      exact ⟨show (n : Int) - n = 0 by omega, fun k h => by injection h with h; omega⟩
noncomputable def countS : Sum := fun args M =>
  match args with
  | [.string s, .int .u8 (.ofNat c)] => bif Nat.blt c 256 then some (.int .i64 (.ofNat (cntB c (bl s) 0)), M) else none
  | _ => none
noncomputable def indexS : Sum := fun args M =>
  match args with
  | [.string s, .int .u8 (.ofNat c)] => bif Nat.blt c 256 then some (.int .i64 (match idxB c (bl s) 0 with | some k => .ofNat k | none => -1), M) else none
  | _ => none
noncomputable def cmpS : Sum := fun args M =>
  match args with
  | [.string s, .string t] => some (.int .i64 (bif llt (bl s) (bl t) then -1 else bif leq (bl s) (bl t) then 0 else 1), M)
  | _ => none
theorem u8_of {c : Nat} (h : c < 256) : ((c : Int).toNat.toUInt8).toNat = c := by
  show (UInt8.ofNat c).toNat = c
  rw [UInt8.toNat_ofNat']
  omega
theorem countS_ok {f : FuncId} (hf : ∀ (s : ByteArray) (c : Int) (v : Value) (w : World), (Extern.BytealgCount.count #[.string s, .int .u8 c]).run P w = .ok v w → (callFunc f #[.string s, .int .u8 c]).run P w = .ok (.value v) w) :
    ∀ (args : List Value) (M : Mem) (v : Value) (M' : Mem), countS args M = some (v, M') → ∀ (ρ : Ren) (A : Nat → Prop) (args' : Array Value) (w : World), Rm P ρ A M w → AsR ρ A args args' → Goes P f args' w (RetV P ρ A M w v M') := by
  intro args M v M' h ρ A args' w hM ha
  unfold countS at h
  split at h
  · rename_i s c
    cases hb : Nat.blt c 256 <;> rw [hb] at h
    · cases h
    · simp only [cond_true, Option.some.injEq, Prod.mk.injEq] at h
      obtain ⟨rfl, rfl⟩ := h
      rw [Nat.blt_eq] at hb
      obtain ⟨x, y, rfl, h1, h2⟩ := ha.two
      cases h1
      cases h2
      refine Or.inr ⟨_, w, hf s c _ w (Lib.run_countString s c w), ρ, A, ?_, .refl hM⟩
      have := cntB_eq ((c : Int).toNat.toUInt8) (bl s) 0
      rw [u8_of hb, Nat.zero_add] at this
      unfold Lib.countByte
      rw [this]
      exact .int _ _
  · cases h
theorem indexS_ok {f : FuncId} (hf : ∀ (s : ByteArray) (c : Int) (v : Value) (w : World), (Extern.BytealgIndexByte.indexByte #[.string s, .int .u8 c]).run P w = .ok v w → (callFunc f #[.string s, .int .u8 c]).run P w = .ok (.value v) w) :
    ∀ (args : List Value) (M : Mem) (v : Value) (M' : Mem), indexS args M = some (v, M') → ∀ (ρ : Ren) (A : Nat → Prop) (args' : Array Value) (w : World), Rm P ρ A M w → AsR ρ A args args' → Goes P f args' w (RetV P ρ A M w v M') := by
  intro args M v M' h ρ A args' w hM ha
  unfold indexS at h
  split at h
  · rename_i s c
    cases hb : Nat.blt c 256 <;> rw [hb] at h
    · cases h
    · simp only [cond_true, Option.some.injEq, Prod.mk.injEq] at h
      obtain ⟨rfl, rfl⟩ := h
      rw [Nat.blt_eq] at hb
      obtain ⟨x, y, rfl, h1, h2⟩ := ha.two
      cases h1
      cases h2
      refine Or.inr ⟨_, w, hf s c _ w (Lib.run_indexByteString s c w), ρ, A, ?_, .refl hM⟩
      obtain ⟨h3, _⟩ := idxB_eq ((c : Int).toNat.toUInt8) (bl s) 0
      rw [u8_of hb] at h3
      have h4 : (match idxB c (bl s) 0 with | some k => Int.ofNat k | none => -1) = Lib.indexByte s.data.toList ((c : Int).toNat.toUInt8) := by
        rw [← show bl s = s.data.toList from rfl, ← h3]
        cases idxB c (bl s) 0 with
        | none => rfl
        | some k => simp
      rw [← h4]
      exact .int _ _
  · cases h
theorem cmp_llt : ∀ (a b : List UInt8), Lib.compareBytes a b = bif llt a b then -1 else bif leq a b then 0 else 1
  | [], [] => rfl
  | [], _ :: _ => rfl
  | _ :: _, [] => rfl
  | a :: as, b :: bs => by
    have ih := cmp_llt as bs
    rw [Lib.compareBytes, llt, leq, Tr.beq_dec]
    have hb : Nat.blt a.toNat b.toNat = decide (a < b) := by rw [Bool.eq_iff_iff, Nat.blt_eq, decide_eq_true_iff]; exact UInt8.lt_iff_toNat_lt.symm
    rw [hb]
    by_cases h : a < b
    · simp [h]
    · by_cases e : a = b
      · subst e
        simp only [UInt8.lt_irrefl, if_false, decide_false, cond_false, decide_true, cond_true]
        exact ih
      · have h2 : a.toNat ≠ b.toNat := fun e2 => e (UInt8.toNat_inj.mp e2)
        have h3 : b < a := by
          rw [UInt8.lt_iff_toNat_lt] at h ⊢
          omega
        simp [h, h2, h3]
theorem cmpS_ok {f : FuncId} (hf : ∀ (s t : ByteArray) (v : Value) (w : World), (Extern.BytealgCompare.compare #[.string s, .string t]).run P w = .ok v w → (callFunc f #[.string s, .string t]).run P w = .ok (.value v) w) :
    ∀ (args : List Value) (M : Mem) (v : Value) (M' : Mem), cmpS args M = some (v, M') → ∀ (ρ : Ren) (A : Nat → Prop) (args' : Array Value) (w : World), Rm P ρ A M w → AsR ρ A args args' → Goes P f args' w (RetV P ρ A M w v M') := by
  intro args M v M' h ρ A args' w hM ha
  unfold cmpS at h
  split at h
  · rename_i s t
    simp only [Option.some.injEq, Prod.mk.injEq] at h
    obtain ⟨rfl, rfl⟩ := h
    obtain ⟨x, y, rfl, h1, h2⟩ := ha.two
    cases h1
    cases h2
    refine Or.inr ⟨_, w, hf s t _ w (Lib.run_compareString s t w), ρ, A, ?_, .refl hM⟩
    have := cmp_llt (bl s) (bl t)
    show Rv ρ A _ (.int .i64 (Lib.compareBytes (bl s) (bl t)))
    rw [this]
    exact .int _ _
  · cases h
end
end Go.Proofs.YtepmjghgnhklfaaGreatDoor.det
namespace Go.Proofs.YtepmjghgnhklfaaGreatDoor.det
open Go

noncomputable def byteB (tis : Tr TypeInfo) (i : TypeInfo) : Bool :=
  match i.desc with
  | .int .u8 => Nat.beq i.size 1
  | .named _ u => (match tis.get u with | some j => (match j.desc with | .int .u8 => Nat.beq i.size 1 | _ => true) | none => true)
  | _ => true
theorem datC_of {P : Program} {tis : Tr TypeInfo} {eqs : Tr Unit} (h0 : Tr.Al (fun t i => P.info? t = some i) 0 1 tis) (h : Tr.Al (fun _ i => byteB tis i = true) 0 1 tis) : DatC (datOf tis eqs) P := by
  refine ⟨fun e he => ?_⟩
  simp only [datOf] at he
  split at he
  · rename_i i hi
    have hb := h.get0 hi
    have h1 := h0.get0 hi
    have hs : P.cellsOf e = i.size := by simp [Program.cellsOf, h1]
    rw [hs]
    unfold byteB at hb
    split at he
    · rename_i nm u hd
      split at he
      · rename_i j hj
        injection he with he
        rw [hd] at hb
        simp only [hj, he] at hb
        exact Nat.eq_of_beq_eq_true hb
      · cases he
    · injection he with he
      rw [he] at hb
      exact Nat.eq_of_beq_eq_true hb
  · cases he
theorem datM_of {P : Program} {n : Nat} (h : P.types.size + Made.depth = n + 1) : DatM P := ⟨n, h⟩
/-- what a summary must be -/
def SumAt (P : Program) (G : Nat) (f : FuncId) (S : Sum) : Prop := ∀ (args : List Value) (M : Mem) (v : Value) (M' : Mem), S args M = some (v, M') → ∀ (ρ : Ren) (A : Nat → Prop) (args' : Array Value) (w : World), Rm P ρ A M w → GOK ρ A G → AsR ρ A args args' → Goes P f args' w (RetV P ρ A M w v M')
theorem SumAt.of {P : Program} {G : Nat} {f : FuncId} {S : Sum} (h : ∀ (args : List Value) (M : Mem) (v : Value) (M' : Mem), S args M = some (v, M') → ∀ (ρ : Ren) (A : Nat → Prop) (args' : Array Value) (w : World), Rm P ρ A M w → AsR ρ A args args' → Goes P f args' w (RetV P ρ A M w v M')) : SumAt P G f S :=
  fun args M v M' hs ρ A args' w hM _ ha => h args M v M' hs ρ A args' w hM ha
theorem envOk_of {P : Program} {tis : Tr TypeInfo} {eqs : Tr Unit} {fns : Tr CFn} {sums : Tr Sum} {G n : Nat} (h1 : Tr.Al (fun t i => P.info? t = some i) 0 1 tis) (h2 : Tr.Al (fun _ i => (match i.zero with | some z => plain 9 z | none => true) = true) 0 1 tis)
    (h3 : Tr.Al (fun t _ => P.eqGuardType P.depth t = false ∧ P.stoodInHeld t = false ∧ ∀ fs, P.underlying t = some (.struct fs) → ∀ f ∈ fs, f.name ≠ "_") 0 1 eqs) (h4 : P.types.size + Made.depth = n + 1) (h5 : Tr.Al (fun _ i => byteB tis i = true) 0 1 tis) (h6 : P.follows .mixedOrders = true)
    (h7 : Tr.Al (fun f cf => FnOk ⟨datOf tis eqs, G, fns, sums⟩ P f cf) 0 1 fns) (h8 : Tr.Al (fun f S => SumAt P G f S) 0 1 sums) : EnvOk ⟨datOf tis eqs, G, fns, sums⟩ P :=
  ⟨⟨datOf_ok h1 h3, datOf_z h2, datM_of h4, datC_of h1 h5⟩, h6, fun f cf hf => h7.get0 hf, fun f S hS => (h8.get0 hS : SumAt P G f S)⟩
end Go.Proofs.YtepmjghgnhklfaaGreatDoor.det
namespace Go.Proofs.YtepmjghgnhklfaaGreatDoor.det
open Go Go.RowKit

section
variable {P : Program} {ρ : Ren} {A : Nat → Prop} {M : Mem} {w : World}
theorem AsR.three {k : Nat → Prop} {x y z : Value} {l' : Array Value} (h : AsR ρ k [x, y, z] l') : ∃ x' y' z', l' = #[x', y', z'] ∧ Rv ρ k x x' ∧ Rv ρ k y y' ∧ Rv ρ k z z' := by
  obtain ⟨l'⟩ := l'
  have h1 := h.1
  match l', h1 with
  | [a, b, c], _ => exact ⟨a, b, c, rfl, h.2 0 _ _ rfl rfl, h.2 1 _ _ rfl rfl, h.2 2 _ _ rfl rfl⟩
/-- a block that the callee has made: a new name for it -/
theorem St.born (h : Rm P ρ A M w) (hl : M.next < M.top) {w' : World} (hb : Below w.heap.size w w') {g c : Nat} {o : CObj} {o' : Obj} (hg : w.heap.size ≤ g) (hw : w'.heap[g]? = some o') (ho : Ro ρ A o o') (hr : Room P c o') :
    St P ρ A M w (rset ρ M.next (g, c)) (more A M.next) (M.alloc o) w' := by
  have hag := agree_new h hl (g, c)
  have hll : M.next < lim := Nat.lt_of_lt_of_le hl h.lim
  have hgt := M.get_alloc o hll
  refine ⟨hag, fun _ h => Or.inl h, fun n hn => hn.imp id (fun e => by rw [e]; exact ⟨Nat.le_refl _, hl⟩), Nat.le_succ _, rfl, ⟨?_, ?_, ?_, ?_, ?_, h.lim⟩, hb.size, hb.tape, hb.os, hb.output, fun b hlt _ => hb.block b hlt, ?_⟩
  · intro a b oa ob ha hb' e
    rw [hgt] at ha hb'
    by_cases h1 : a = M.next
    · by_cases h2 : b = M.next
      · rw [h1, h2]
      · rw [if_neg h2] at hb'
        rw [h1, rset_new, rset_old (h.ne hl b ob hb')] at e
        have := h.block_lt hb'
        have e' : g = (ρ b).1 := e
        omega
    · rw [if_neg h1] at ha
      by_cases h2 : b = M.next
      · rw [h2, rset_new, rset_old (h.ne hl a oa ha)] at e
        have := h.block_lt ha
        have e' : (ρ a).1 = g := e
        omega
      · rw [if_neg h2] at hb'
        rw [rset_old (h.ne hl a oa ha), rset_old (h.ne hl b ob hb')] at e
        exact h.inj a b oa ob ha hb' e
  · intro a x ha
    rw [hgt] at ha
    by_cases h1 : a = M.next
    · rw [if_pos h1] at ha
      injection ha with ha
      subst ha
      rw [h1, rset_new]
      exact ⟨o', hw, ho.up (fun _ h => Or.inl h) hag, hr⟩
    · rw [if_neg h1] at ha
      obtain ⟨x', h2, h3, h4⟩ := h.obj a x ha
      rw [rset_old (h.ne hl a x ha)]
      exact ⟨x', by rw [hb.block _ (h.block_lt ha)]; exact h2, h3.up (fun _ h => Or.inl h) hag, h4⟩
  · intro a x ha
    rw [hgt] at ha
    by_cases h1 : a = M.next
    · exact Or.inr h1
    · rw [if_neg h1] at ha
      exact Or.inl (h.live a x ha)
  · intro n hn
    show n < M.next + 1 ∨ M.top ≤ n
    rcases hn with hn | hn
    · have := h.sub n hn
      omega
    · omega
  · intro n hn
    rcases hn with hn | hn
    · exact h.small n hn
    · rw [hn]; exact hll
  · intro n x hn
    rw [hgt] at hn
    by_cases h1 : n = M.next
    · rw [h1, rset_new]
      exact Or.inl hg
    · rw [if_neg h1] at hn
      exact Or.inr ⟨n, x, hn, by rw [rset_old (h.ne hl n x hn)]⟩
/-! ### A place kept between the elements of an open row -/
/-- what stands there behind it, cell by cell -/
def insV (K n m i voff : Nat) (cur vr : Array Value) (j : Nat) : Value :=
  if j < i * K then cur.getD j undef else if j < (i + m) * K then vr.getD (voff + (j - i * K)) undef else cur.getD (j - m * K) undef
def InsPost (K : Nat) (t : TypeId) (b n c i voff m : Nat) (cur vr : Array Value) (fz : Nat × Nat) (w : World) (e : Ending) (w' : World) : Prop :=
  w'.tape = w.tape ∧ w'.os = w.os ∧ w'.output = w.output ∧ ∃ row : Array Value, (∀ j, j < (n + m) * K → row.getD j undef = insV K n m i voff cur vr j) ∧
    ((e = .returned (.slice (some ⟨b, 0, none⟩) (n + m) c) ∧ n + m ≤ c ∧ w'.heap = w.heap.setIfInBounds b (.cells row t fz) ∧ row.size = cur.size) ∨
     (∃ c', e = .returned (.slice (some ⟨w.heap.size, 0, none⟩) (n + m) c') ∧ n + m ≤ c' ∧ w'.heap = w.heap.push (.cells row t (0, 0)) ∧ c' * K ≤ row.size))
def InsAt (P : Program) (f : FuncId) (K B : Nat) (t : TypeId) : Prop := ∀ (b n c i vb voff m vc : Nat) (cur vr : Array Value) (fz vfz : Nat × Nat) (w : World),
  i < n → 0 < m → n ≤ c → (3 * (n + m) + 1200) * B ≤ 140737488355328 → vb ≠ b → w.heap[b]? = some (.cells cur t fz) → c * K ≤ cur.size → (∀ i, i < cur.size → ¬ (fz.1 ≤ i ∧ i < fz.2)) →
  w.heap[vb]? = some (.cells vr t vfz) → voff + m * K ≤ vr.size → (∀ i, i < vr.size → ¬ (vfz.1 ≤ i ∧ i < vfz.2)) → vfz.2 ≤ vr.size →
  (∀ j, j < n * K → (cur.getD j undef).oneCell' = true) → (∀ j, j < m * K → (vr.getD (voff + j) undef).oneCell' = true) →
  Calls P f #[.slice (some ⟨b, 0, none⟩) n c, .int .i64 i, .slice (some ⟨vb, voff, none⟩) m vc] w (InsPost K t b n c i voff m cur vr fz w)
noncomputable def ins3 (K n m i vo : Nat) (cs vs : List Value) : List Value := cs.take (Nat.mul i K) ++ ((vs.drop vo).take (Nat.mul m K) ++ (cs.take (Nat.mul n K)).drop (Nat.mul i K))
noncomputable def insertS (K B : Nat) (t : TypeId) : Sum := fun args M =>
  match args with
  | [.slice (some ⟨b, 0, some 0⟩) n c, .int .i64 (.ofNat i), .slice (some ⟨vb, vo, none⟩) m _] =>
    (match eCells M b, eCells M vb with
    | some (cs, et), some (vs, vt) =>
      bif Nat.blt i n && Nat.blt 0 m && Nat.beq et t && Nat.beq vt t && Nat.ble (Nat.mul n K) cs.length && Nat.ble (Nat.add vo (Nat.mul m K)) vs.length && not (Nat.beq b vb) && Nat.ble n c && Nat.ble (Nat.mul (Nat.add (Nat.mul 3 (Nat.add n m)) 1200) B) 140737488355328 && cs.all one && vs.all one && Nat.blt M.next M.top then
        some (.slice (some ⟨M.next, 0, some 0⟩) (Nat.add n m) (Nat.add n m), (M.del b).alloc (.cells (ins3 K n m i vo cs vs) t))
      else none
    | _, _ => none)
  | _ => none
theorem ins_ro {K n m i vo : Nat} {t : TypeId} {cs vs : List Value} {cur vr row : Array Value} {fz : Nat × Nat} (hi : i < n) (hcl : n * K ≤ cs.length) (hvl : vo + m * K ≤ vs.length)
    (hcv : ∀ (j : Nat) (v : Value), cs[j]? = some v → Rv ρ A v (cur.getD j undef)) (hvv : ∀ (j : Nat) (v : Value), vs[j]? = some v → Rv ρ A v (vr.getD j undef))
    (hrow : ∀ j, j < (n + m) * K → row.getD j undef = insV K n m i vo cur vr j) (hsz : (n + m) * K ≤ row.size) (hz : ∀ i, i < row.size → ¬ (fz.1 ≤ i ∧ i < fz.2)) :
    Ro ρ A (.cells (ins3 K n m i vo cs vs) t) (.cells row t fz) := by
  have hin : i * K ≤ n * K := Nat.mul_le_mul_right _ (Nat.le_of_lt hi)
  have e1 : (n + m) * K = n * K + m * K := Nat.add_mul _ _ _
  have e2 : (i + m) * K = i * K + m * K := Nat.add_mul _ _ _
  have hlen : (ins3 K n m i vo cs vs).length = (n + m) * K := by
    unfold ins3
    simp only [List.length_append, List.length_take, List.length_drop, Nat.mul_eq]
    omega
  refine .cells _ _ _ _ (by rw [hlen]; exact hsz) (fun j v hj => ?_) hz
  have hjl : j < (n + m) * K := by
    rw [← hlen]
    rcases Nat.lt_or_ge j (ins3 K n m i vo cs vs).length with h1 | h1
    · exact h1
    · rw [List.getElem?_eq_none h1] at hj; cases hj
  rw [hrow j hjl]
  unfold insV
  unfold ins3 at hj
  simp only [Nat.mul_eq] at hj
  have l1 : (cs.take (i * K)).length = i * K := by rw [List.length_take]; omega
  have l2 : ((vs.drop vo).take (m * K)).length = m * K := by rw [List.length_take, List.length_drop]; omega
  by_cases h1 : j < i * K
  · rw [if_pos h1]
    rw [List.getElem?_append_left (by omega), List.getElem?_take, if_pos h1] at hj
    exact hcv j v hj
  · rw [if_neg h1]
    rw [List.getElem?_append_right (by omega), l1] at hj
    by_cases h2 : j < (i + m) * K
    · rw [if_pos h2]
      rw [List.getElem?_append_left (by omega), List.getElem?_take, if_pos (by omega), List.getElem?_drop] at hj
      exact hvv _ v hj
    · rw [if_neg h2]
      rw [List.getElem?_append_right (by omega), l2, List.getElem?_drop, List.getElem?_take, if_pos (by omega)] at hj
      have e3 : i * K + (j - i * K - m * K) = j - m * K := by omega
      rw [e3] at hj
      exact hcv _ v hj
theorem insertS_ok {f : FuncId} {K B : Nat} {t : TypeId} (hf : ∀ (args' : Array Value) (w : World), (callFunc f args').run P w = .ok (.enter f args') w) (hK : P.cellsOf t = K) (hK1 : K ≠ 1) (hC : InsAt P f K B t) :
    ∀ (args : List Value) (M : Mem) (v : Value) (M' : Mem), insertS K B t args M = some (v, M') → ∀ (ρ : Ren) (A : Nat → Prop) (args' : Array Value) (w : World), Rm P ρ A M w → AsR ρ A args args' → Goes P f args' w (RetV P ρ A M w v M') := by
  intro args M v M' h ρ A args' w hM ha
  unfold insertS at h
  split at h
  · rename_i b n c i vb vo m vc
    split at h
    · rename_i cs et vs ve hb hvb
      cases hc : (Nat.blt i n && Nat.blt 0 m && Nat.beq et t && Nat.beq ve t && Nat.ble (Nat.mul n K) cs.length && Nat.ble (Nat.add vo (Nat.mul m K)) vs.length && not (Nat.beq b vb) && Nat.ble n c && Nat.ble (Nat.mul (Nat.add (Nat.mul 3 (Nat.add n m)) 1200) B) 140737488355328 && cs.all one && vs.all one && Nat.blt M.next M.top) <;> rw [hc] at h
      · cases h
      · simp only [cond_true, Option.some.injEq, Prod.mk.injEq] at h
        obtain ⟨rfl, rfl⟩ := h
        simp only [Bool.and_eq_true, Nat.blt_eq, Nat.beq_eq, Nat.ble_eq, Bool.not_eq_true', Tr.beq_dec, decide_eq_true_eq, decide_eq_false_iff_not, List.all_eq_true] at hc
        obtain ⟨⟨⟨⟨⟨⟨⟨⟨⟨⟨⟨h1, h2⟩, h3⟩, h3v⟩, h4⟩, h5⟩, h6⟩, h7⟩, h8⟩, h9⟩, h10⟩, h11⟩ := hc
        subst h3
        subst h3v
        obtain ⟨x, y, z, rfl, hx, hy, hz⟩ := ha.three
        cases hy
        cases hz with
        | slX _ _ _ _ hlv =>
        cases hx with
        | slO _ _ _ _ c2 hlt hcc hc0 =>
        have hc2 := hc0 rfl
        subst hc2
        obtain ⟨cur, fz, hw, hcl, hcv, hcz, hroom, hfz⟩ := hM.row hb
        obtain ⟨vr, vfz, hwv, hvl, hvv, hvz, _, hvf⟩ := hM.row hvb
        rw [hK] at hroom hfz hvf
        have hvf' : vfz.2 ≤ vr.size := hvf.resolve_right hK1
        have hfz' : fz.2 ≤ cur.size := hfz.resolve_right hK1
        have hne : (ρ vb).1 ≠ (ρ b).1 := fun e => h6 (hM.inj vb b _ _ (eCells_some hvb) (eCells_some hb) e).symm
        have h4' : n * K ≤ cs.length := h4
        have h5' : vo + m * K ≤ vs.length := h5
        have one1 : ∀ j, j < n * K → (cur.getD j undef).oneCell' = true := fun j hj => by
          have hj2 : j < cs.length := by omega
          exact one_rv (hcv j cs[j] (List.getElem?_eq_getElem hj2)) (h9 _ (List.getElem_mem hj2))
        have one2 : ∀ j, j < m * K → (vr.getD (vo + j) undef).oneCell' = true := fun j hj => by
          have hj2 : vo + j < vs.length := by omega
          exact one_rv (hvv (vo + j) vs[vo + j] (List.getElem?_eq_getElem hj2)) (h10 _ (List.getElem_mem hj2))
        have hsub : ∀ a o, (M.del b).get a = some o → M.get a = some o := fun a o ha => by
          rw [M.get_del b (hM.small _ hlt)] at ha
          by_cases h1 : a = b
          · rw [if_pos h1] at ha; cases ha
          · rwa [if_neg h1] at ha
        have run := hC (ρ b).1 n (ρ b).2 i (ρ vb).1 vo m vc cur vr fz vfz w h1 h2 (Nat.le_trans h7 hcc) h8 hne hw hroom hcz hwv (Nat.le_trans h5' hvl) hvz hvf' one1 one2
        refine Or.inl ⟨hf _ _, callsIn_wide.mpr (run.mono fun e w' he => ?_)⟩
        obtain ⟨ht, hos, hout, row, hrow, hcase⟩ := he
        rcases hcase with ⟨rfl, hle, hheap, hsz⟩ | ⟨c', rfl, hle, hheap, hsz⟩
        · have hfit : (n + m) * K ≤ row.size := by
            rw [hsz]
            exact Nat.le_trans (Nat.mul_le_mul_right _ hle) hroom
          have hst := St.move hM h11 (eCells_some hb) (ins_ro h1 h4' h5' hcv hvv hrow hfit (by rw [hsz]; exact hcz)) (o' := .cells row ve fz) (by
            show _ * P.cellsOf ve ≤ Array.size _ ∧ (_ ≤ Array.size _ ∨ _)
            rw [hsz, hK]
            exact ⟨hroom, Or.inl hfz'⟩)
          have hst2 := hst.trans (St.of_heap hst.mem (w' := w') hheap ht hos hout)
          refine ⟨_, _, ?_, hst2⟩
          have := Rv.slO (ρ := rset ρ M.next (ρ b)) (k := more A M.next) M.next 0 (n + m) (n + m) (ρ b).2 more_new hle (fun _ => by rw [rset_new])
          rw [rset_new] at this
          exact this
        · have hfit : (n + m) * K ≤ row.size := Nat.le_trans (Nat.mul_le_mul_right _ hle) hsz
          have hst := St.alloc (hM.less hsub rfl rfl) h11 c' (ins_ro h1 h4' h5' hcv hvv hrow hfit (fz := (0, 0)) (fun j _ hj => by omega)) (o' := .cells row ve (0, 0)) (by
            show c' * P.cellsOf ve ≤ Array.size _ ∧ (_ ≤ Array.size _ ∨ _)
            rw [hK]
            exact ⟨hsz, Or.inl (Nat.zero_le _)⟩)
          have hst2 := hst.trans (St.of_heap hst.mem (w' := w') hheap ht hos hout)
          refine ⟨_, _, ?_, St.of_sub hsub rfl rfl hst2⟩
          have := Rv.slO (ρ := rset ρ M.next (w.heap.size, c')) (k := more A M.next) M.next 0 (n + m) (n + m) c' more_new hle (fun _ => by rw [rset_new])
          rw [rset_new] at this
          exact this
    · cases h
  · cases h
end
end Go.Proofs.YtepmjghgnhklfaaGreatDoor.det
namespace Go.Proofs.YtepmjghgnhklfaaGreatDoor.det
open Go Go.RowKit Go.Maps
open Go.Proofs (encStr)
open Go.WideElems (Fit rd rg pl rd_val elemAt)
def ptrV (c : Option Nat) : Value := .pointer (c.map fun b => ⟨b, 0, none⟩)
def fileR : Value → Option (DataW Unit × List MemPlace)
  | .pointer none => some (.nil, [])
  | .pointer (some ⟨b, 0, none⟩) => some (.lit (.int .u64 b), [])
  | _ => none
theorem fileR_inv : ∀ v y, fileR v = some y → ∃ c, v = ptrV c := by
  intro v y h
  unfold fileR at h
  split at h
  · exact ⟨none, rfl⟩
  · exact ⟨some _, rfl⟩
  · cases h
def keyL (e : MapEntry) : List UInt8 := match e.key with | .string s => bl s | _ => []
def okE (cl : Nat) (e : MapEntry) : Bool :=
  match e.key, e.val with
  | .string s, .pointer (some ⟨_, 0, none⟩) => Nat.ble (bl s).length 1000000 && Nat.blt e.born cl
  | _, _ => false
def newE (e : MapEntry) : List MapEntry → Bool
  | [] => true
  | x :: l => bif Nat.beq x.born e.born || leq (keyL e) (keyL x) then false else newE e l
def okEs (cl : Nat) : List MapEntry → Bool
  | [] => true
  | e :: l => bif okE cl e && newE e l then okEs cl l else false
def insL (k : List UInt8) : List (List UInt8) → List (List UInt8)
  | [] => [k]
  | x :: l => bif llt x k then x :: insL k l else k :: x :: l
def srtL : List (List UInt8) → List (List UInt8)
  | [] => []
  | x :: l => insL x (srtL l)
noncomputable def risingS (t : TypeId) : Sum := fun args M =>
  match args with
  | [.map (some r)] =>
    (match M.get r with
    | some (.map es cl) =>
      bif okEs cl es && Nat.ble es.length 1000000 && Nat.blt M.next M.top then
        (match srtL (es.map keyL) with
        | [] => some (.slice none 0 0, M)
        | k :: l => some (.slice (some ⟨M.next, 0, some 0⟩) (k :: l).length (k :: l).length, M.alloc (.cells ((k :: l).map fun s => .string (bmk s)) t)))
      else none
    | _ => none)
  | _ => none
theorem llt_lt : ∀ (a b : List UInt8), llt a b = decide (a < b)
  | [], [] => by simp [llt]
  | [], _ :: _ => by simp [llt]
  | _ :: _, [] => by simp [llt]
  | a :: as, b :: bs => by
    rw [llt, Tr.beq_dec, llt_lt as bs]
    have hb : Nat.blt a.toNat b.toNat = decide (a < b) := by rw [Bool.eq_iff_iff, Nat.blt_eq, decide_eq_true_iff]; exact UInt8.lt_iff_toNat_lt.symm
    rw [hb]
    by_cases h : a < b
    · simp [h, List.cons_lt_cons_iff]
    · by_cases e : a = b
      · subst e; simp [List.cons_lt_cons_iff]
      · have h2 : a.toNat ≠ b.toNat := fun e2 => e (UInt8.toNat_inj.mp e2)
        simp [h, e, h2, List.cons_lt_cons_iff]
theorem insL_perm (k : List UInt8) : ∀ l, (insL k l).Perm (k :: l)
  | [] => .refl _
  | x :: l => by
    unfold insL
    cases llt x k
    · exact .refl _
    · exact ((insL_perm k l).cons x).trans (.swap k x l)
theorem srtL_perm : ∀ l, (srtL l).Perm l
  | [] => .refl _
  | x :: l => (insL_perm x (srtL l)).trans ((srtL_perm l).cons x)
theorem insL_sorted (k : List UInt8) : ∀ l, l.Pairwise (fun a b => leB a b = true) → (insL k l).Pairwise (fun a b => leB a b = true)
  | [], _ => by simp [insL]
  | x :: l, h => by
    unfold insL
    rw [llt_lt]
    rw [List.pairwise_cons] at h
    by_cases hx : x < k
    · rw [decide_eq_true hx, cond_true, List.pairwise_cons]
      refine ⟨fun y hy => ?_, insL_sorted k l h.2⟩
      rcases List.mem_cons.1 ((insL_perm k l).mem_iff.1 hy) with rfl | hy
      · exact decide_eq_true (List.le_of_lt hx)
      · exact h.1 y hy
    · rw [decide_eq_false hx, cond_false, List.pairwise_cons, List.pairwise_cons]
      have hk : k ≤ x := hx
      refine ⟨fun y hy => ?_, h⟩
      rcases List.mem_cons.1 hy with rfl | hy
      · exact decide_eq_true hk
      · exact decide_eq_true (List.le_trans hk (of_decide_eq_true (h.1 y hy)))
theorem srtL_sorted : ∀ l, (srtL l).Pairwise (fun a b => leB a b = true)
  | [] => .nil
  | x :: l => insL_sorted x _ (srtL_sorted l)
theorem srtL_eq (l : List (List UInt8)) : l.mergeSort leB = srtL l := by
  have tr : ∀ a b c : List UInt8, leB a b = true → leB b c = true → leB a c = true := fun a b c h1 h2 => by simp only [leB, decide_eq_true_eq] at *; exact List.le_trans h1 h2
  have to : ∀ a b : List UInt8, (leB a b || leB b a) = true := fun a b => by simp only [leB, Bool.or_eq_true, decide_eq_true_eq]; exact List.le_total a b
  refine List.Perm.eq_of_pairwise (le := fun a b => leB a b = true) (fun a b _ _ h1 h2 => ?_) (List.pairwise_mergeSort tr to l) (srtL_sorted l) ((List.mergeSort_perm l leB).trans (srtL_perm l).symm)
  simp only [leB, decide_eq_true_eq] at h1 h2
  exact List.le_antisymm h1 h2
theorem newE_ok {e : MapEntry} : ∀ {l : List MapEntry}, newE e l = true → ∀ x ∈ l, x.born ≠ e.born ∧ keyL e ≠ keyL x
  | [], _, x, hx => by cases hx
  | y :: l, h, x, hx => by
    unfold newE at h
    rw [leq_eq, Tr.beq_dec] at h
    cases hc : (decide (y.born = e.born) || keyL e == keyL y) <;> rw [hc] at h
    · simp only [Bool.or_eq_false_iff, decide_eq_false_iff_not, beq_eq_false_iff_ne] at hc
      rcases List.mem_cons.1 hx with rfl | hx
      · exact hc
      · exact newE_ok h x hx
    · cases h
theorem okEs_ok {cl : Nat} : ∀ {es : List MapEntry}, okEs cl es = true → (∀ e ∈ es, okE cl e = true) ∧ (es.map (·.born)).Nodup ∧ (es.map keyL).Nodup
  | [], _ => ⟨fun e h => (by cases h), List.nodup_nil, List.nodup_nil⟩
  | e :: l, h => by
    unfold okEs at h
    cases hc : (okE cl e && newE e l) <;> rw [hc] at h
    · cases h
    · simp only [Bool.and_eq_true] at hc
      obtain ⟨h1, h2, h3⟩ := okEs_ok (es := l) h
      have hn := newE_ok hc.2
      refine ⟨fun x hx => ?_, ?_, ?_⟩
      · rcases List.mem_cons.1 hx with rfl | hx
        · exact hc.1
        · exact h1 x hx
      · rw [List.map_cons, List.nodup_cons]
        refine ⟨fun hm => ?_, h2⟩
        obtain ⟨x, hx, e1⟩ := List.mem_map.1 hm
        exact (hn x hx).1 e1
      · rw [List.map_cons, List.nodup_cons]
        refine ⟨fun hm => ?_, h3⟩
        obtain ⟨x, hx, e1⟩ := List.mem_map.1 hm
        exact (hn x hx).2 e1.symm
theorem okE_ok {cl : Nat} {e : MapEntry} (h : okE cl e = true) : ∃ s b, e.key = .string s ∧ e.val = .pointer (some ⟨b, 0, none⟩) ∧ (bl s).length ≤ 1000000 ∧ e.born < cl ∧ keyL e = bl s := by
  unfold okE at h
  split at h
  · rename_i s b hk hv
    rw [Bool.and_eq_true, Nat.ble_eq, Nat.blt_eq] at h
    exact ⟨s, b, hk, hv, h.1, h.2, by unfold keyL; rw [hk]⟩
  · cases h
section
variable {P : Program} {ρ : Ren} {A : Nat → Prop} {M : Mem} {w : World}
def RisAt (P : Program) (f : FuncId) (t : TypeId) : Prop := ∀ (ms n : Nat) (D0 : DataW Unit) (w : World), w.ownsMap P t fileR ms n D0 → Maps.size D0 ≤ maxLen → 16 * Maps.size D0 ≤ 140737488355328 →
    Calls P f #[.map (some ms)] w fun e w' => ∃ (v : Value) (ss : List (List UInt8)), e = .returned v ∧ (ss.length = 0 → v = .slice none 0 0) ∧ ss.Perm (strKeys D0) ∧
      w'.ownsRow w.heap.size t 1 v ss.length ((ss.mergeSort (fun x y => decide (x ≤ y))).map encStr) ∧ Below w.heap.size w w'
theorem ris_map {t : TypeId} (hu : P.underlying t = some .string) {es : List MapEntry} {es' : Array MapEntry} {cl : Nat} (hok : okEs cl es = true) (hlen : es.length ≤ 1000000) (hs : es.length = es'.size)
    (he : ∀ (i : Nat) (e : MapEntry), es[i]? = some e → ∃ e', es'[i]? = some e' ∧ Rme ρ A e e') {ms : Nat} (hw : w.heap[ms]? = some (.map es' cl)) :
    ∃ D0, w.ownsMap P t fileR ms es'.size D0 ∧ Maps.size D0 ≤ 1000000 ∧ (strKeys D0).Perm (es.map keyL) := by
  obtain ⟨hE, hB, hK⟩ := okEs_ok hok
  have at_ : ∀ x ∈ es'.toList, ∃ e ∈ es, Rme ρ A e x := by
    intro x hx
    obtain ⟨i, hi, rfl⟩ := List.getElem_of_mem hx
    have hi2 : i < es.length := by rw [hs]; simpa using hi
    obtain ⟨e', h1, h2⟩ := he i es[i] (List.getElem?_eq_getElem hi2)
    refine ⟨es[i], List.getElem_mem hi2, ?_⟩
    have h3 : es'[i]? = some es'.toList[i] := by rw [← Array.getElem?_toList, List.getElem?_eq_getElem hi]
    rw [h3] at h1
    injection h1 with h1
    rw [h1]
    exact h2
  have mp : ∀ {β : Type} (g : MapEntry → β), (∀ e e', Rme ρ A e e' → g e' = g e) → es'.toList.map g = es.map g := by
    intro β g hg
    apply List.ext_getElem?
    intro i
    rw [List.getElem?_map, List.getElem?_map]
    rcases Nat.lt_or_ge i es.length with hi | hi
    · obtain ⟨e', h1, h2⟩ := he i es[i] (List.getElem?_eq_getElem hi)
      rw [Array.getElem?_toList, h1, List.getElem?_eq_getElem hi, Option.map_some, Option.map_some, hg _ _ h2]
    · rw [List.getElem?_eq_none hi, List.getElem?_eq_none (by rw [Array.length_toList]; omega)]
  have key : ∀ x ∈ es'.toList, ∃ s b, x.key = .string s ∧ x.val = .pointer (some ⟨b, 0, none⟩) ∧ (bl s).length ≤ 1000000 ∧ x.born < cl ∧ rd P t fileR x = some (.string (bl s), .lit (.int .u64 b)) := by
    intro x hx
    obtain ⟨e, he1, he2⟩ := at_ x hx
    obtain ⟨s, b, h1, h2, h3, h4, h5⟩ := okE_ok (hE e he1)
    have hv := he2.val
    rw [h2] at hv
    have hkx : x.key = .string s := by rw [he2.key, h1]
    have hvx : ∃ b', x.val = .pointer (some ⟨b', 0, none⟩) := by
      generalize x.val = q at hv
      cases hv with
      | ptr _ _ _ => exact ⟨_, rfl⟩
    obtain ⟨b', hb'⟩ := hvx
    refine ⟨s, b', hkx, hb', h3, by rw [he2.born]; exact h4, ?_⟩
    have hle : s.size ≤ maxLen := by rw [bl_size]; exact Nat.le_trans h3 (by unfold maxLen; omega)
    unfold rd
    rw [hkx, hb', WideMaps.keyOf_string_mk (P := P) hu hle]
    rfl
  have F : Fit P t fileR es' cl := by
    refine ⟨by rw [← hs]; exact Nat.le_trans hlen (by unfold maxLen; omega), ⟨fun x hx => ?_, ?_, ?_⟩, fun x hx => ?_⟩
    · obtain ⟨_, _, _, _, _, h, _⟩ := key x hx
      exact h
    · rw [mp (·.born) (fun e e' h => h.born)]
      exact hB
    · rw [mp (·.key) (fun e e' h => h.key)]
      refine List.Pairwise.of_map (S := fun a b => a ≠ b) (fun v => match v with | .string s => bl s | _ => []) (fun a b h e => h (by rw [e])) ?_
      rw [List.map_map]
      exact hK
    · obtain ⟨_, _, _, _, _, _, h⟩ := key x hx
      exact ⟨_, h⟩
  refine ⟨_, ⟨es', cl, hw, F, Nat.le_refl _, rfl⟩, ?_, ?_⟩
  · show ((es'.toList.map (rg P t fileR)).foldr DataW.insert []).length ≤ _
    rw [(WideShapes.sorted_perm _).length_eq, List.length_map, Array.length_toList, ← hs]
    exact hlen
  · show (((es'.toList.map (rg P t fileR)).foldr DataW.insert []).map fun p => strOf p.1).Perm _
    refine ((WideShapes.sorted_perm _).map _).trans ?_
    rw [List.map_map, ← mp keyL (fun e e' h => by unfold keyL; rw [h.key])]
    refine List.Perm.of_eq (List.map_congr_left fun x hx => ?_)
    obtain ⟨s, b, h1, _, _, _, h2⟩ := key x hx
    show strOf (rg P t fileR x).1 = keyL x
    rw [WideElems.rg_of h2]
    unfold keyL
    rw [h1]
    rfl
theorem risingS_ok {f : FuncId} {t : TypeId} (hu : P.underlying t = some .string) (hc1 : P.cellsOf t = 1) (hf : ∀ (args' : Array Value) (w : World), (callFunc f args').run P w = .ok (.enter f args') w) (hC : RisAt P f t) :
    ∀ (args : List Value) (M : Mem) (v : Value) (M' : Mem), risingS t args M = some (v, M') → ∀ (ρ : Ren) (A : Nat → Prop) (args' : Array Value) (w : World), Rm P ρ A M w → AsR ρ A args args' → Goes P f args' w (RetV P ρ A M w v M') := by
  intro args M v M' h ρ A args' w hM ha
  unfold risingS at h
  split at h
  · rename_i r
    split at h
    · rename_i es cl hg
      cases hc : (okEs cl es && Nat.ble es.length 1000000 && Nat.blt M.next M.top) <;> rw [hc] at h
      · cases h
      · simp only [cond_true] at h
        rw [Bool.and_eq_true, Bool.and_eq_true, Nat.ble_eq, Nat.blt_eq] at hc
        obtain ⟨⟨hok, hlen⟩, hl⟩ := hc
        obtain ⟨x, rfl, hx⟩ := ha.one
        cases hx with
        | map _ hr =>
        obtain ⟨o', hw, hro, _⟩ := hM.obj r _ hg
        cases hro with
        | map _ es' _ hs he =>
        obtain ⟨D0, hown, hsz, hperm⟩ := ris_map hu hok hlen hs he hw
        refine Or.inl ⟨hf _ _, callsIn_wide.mpr ((hC (ρ r).1 es'.size D0 w hown (Nat.le_trans hsz (by unfold maxLen; omega)) (by omega)).mono fun e w' he2 => ?_)⟩
        obtain ⟨v', ss, rfl, hnil, hp, hrow, hbel⟩ := he2
        have e1 : ss.mergeSort (fun x y => decide (x ≤ y)) = srtL (es.map keyL) := by
          rw [← srtL_eq]
          exact mergeSort_of_perm (hp.trans hperm)
        have e2 : ss.length = (srtL (es.map keyL)).length := by rw [← e1, List.length_mergeSort]
        rw [e1, e2] at hrow
        rw [e2] at hnil
        generalize srtL (es.map keyL) = L at h hrow hnil
        cases L with
        | nil =>
          simp only [Option.some.injEq, Prod.mk.injEq] at h
          obtain ⟨rfl, rfl⟩ := h
          obtain rfl := hnil rfl
          exact ⟨ρ, A, .sl0 _ _, St.below hM hbel⟩
        | cons k l =>
          simp only [Option.some.injEq, Prod.mk.injEq] at h
          obtain ⟨rfl, rfl⟩ := h
          rcases hrow.2 with ⟨_, h0⟩ | ⟨g, cap, cur, rfl, hgb, hgw, hcap, _, hcs, htk⟩
          · cases h0
          · have hst := St.born hM hl hbel (c := cap) (o := .cells ((k :: l).map fun s => .string (bmk s)) t) hgb hgw (.cells _ _ _ _ (by rw [List.length_map, hcs]; omega) (fun j u hj => ?_) (fun j _ hj => by omega)) (by
              show cap * P.cellsOf t ≤ Array.size _ ∧ (_ ≤ Array.size _ ∨ _)
              rw [hc1, hcs]
              exact ⟨Nat.le_refl _, Or.inl (Nat.zero_le _)⟩)
            · refine ⟨_, _, ?_, hst⟩
              have := Rv.slO (ρ := rset ρ M.next (g, cap)) (k := more A M.next) M.next 0 (k :: l).length (k :: l).length cap more_new hcap (fun _ => by rw [rset_new])
              rw [rset_new] at this
              exact this
            · have hj2 : j < (k :: l).length := by
                rcases Nat.lt_or_ge j (k :: l).length with h1 | h1
                · exact h1
                · rw [List.getElem?_eq_none (by rw [List.length_map]; exact h1)] at hj; cases hj
              have h3 : (cur.toList.take ((k :: l).length * 1))[j]? = some u := by
                rw [htk]
                exact hj
              rw [List.getElem?_take, if_pos (by omega), Array.getElem?_toList] at h3
              rw [Array.getD_eq_getD_getElem?, h3]
              rw [List.getElem?_map] at hj
              obtain ⟨s, _, rfl⟩ := Option.map_eq_some_iff.1 hj
              exact .string _
    · cases h
  · cases h
end
end Go.Proofs.YtepmjghgnhklfaaGreatDoor.det
namespace Go.Proofs.YtepmjghgnhklfaaGreatDoor.det
open Go Go.RowKit

section
variable {P : Program}
def CopyV (o so k : Nat) (cur vr row : Array Value) : Prop := row.size = cur.size ∧ ∀ j, row.getD j undef = if o ≤ j ∧ j < o + k then vr.getD (so + (j - o)) undef else cur.getD j undef
def setB (w : World) (b : Nat) (o : Obj) : World := { w with heap := w.heap.setIfInBounds b o }
theorem run_copyK {dT sT elem : TypeId} {K b o sb so n : Nat} {cur vr : Array Value} {t : TypeId} {fz : Nat × Nat} (hu : P.underlying dT = some (.slice elem)) (hs : (P.info? elem).map (·.size) = some K)
    (hle : o + n * K ≤ cur.size) (hz : ∀ i, i < cur.size → ¬ (fz.1 ≤ i ∧ i < fz.2)) (hle2 : so + n * K ≤ vr.size) (h1 : ∀ j, j < n * K → (vr.getD (so + j) undef).oneCell' = true) :
    ∃ row, CopyV o so (n * K) cur vr row ∧ ∀ (W : World) (ty : TypeId) (dLen dCap sLen sCap : Nat) (ve : TypeId) (vfz : Nat × Nat), W.heap[b]? = some (.cells cur t fz) → W.heap[sb]? = some (.cells vr ve vfz) → Nat.min sLen dLen = n →
      (Builtin.copy_ #[dT, sT] ty #[.slice (some ⟨b, o, none⟩) dLen dCap, .slice (some ⟨sb, so, none⟩) sLen sCap]).run P W = .ok (goInt n) (setB W b (.cells row t fz)) := by
  have hvl : ((List.range (n * K)).map fun j => vr.getD (so + j) undef).length = n * K := by simp
  have hv1 : ∀ v ∈ (List.range (n * K)).map fun j => vr.getD (so + j) undef, v.oneCell' = true := by
    intro v hv
    obtain ⟨j, hj, rfl⟩ := List.mem_map.1 hv
    exact h1 j (List.mem_range.1 hj)
  have hvg : ∀ j, j < n * K → ((List.range (n * K)).map fun j => vr.getD (so + j) undef).getD j undef = vr.getD (so + j) undef := by
    intro j hj
    simp [List.getD_eq_getElem?_getD, hj]
  generalize hvs : (List.range (n * K)).map (fun j => vr.getD (so + j) undef) = vs at hvl hv1 hvg
  refine ⟨(vs.zipIdx 0).foldl (fun cs (x : Value × Nat) => cs.setIfInBounds (o + x.2) x.1) cur, ⟨fold_size _ _ _, fun j => ?_⟩, fun W ty dLen dCap sLen sCap ve vfz hw hwv hn => ?_⟩
  · rw [fold_get o vs 0 cur j (by omega), hvl]
    by_cases h2 : o ≤ j ∧ j < o + n * K
    · rw [if_pos h2, if_pos (by omega), hvg _ (by omega)]
      rfl
    · rw [if_neg h2, if_neg (by omega)]
  · have hfc : (Builtin.firstCells K n (.slice (some ⟨sb, so, none⟩) sLen sCap)).run P W = .ok vs.toArray W := by
      refine run_firstCells_some W K n ⟨sb, so, none⟩ sLen sCap vs hvl (fun j v hj => ?_)
      have hj2 : j < n * K := by
        rcases Nat.lt_or_ge j vs.length with h3 | h3
        · omega
        · rw [List.getElem?_eq_none h3] at hj; cases hj
      rw [add_place, show Nat.add so j = so + j from rfl, cell_of hwv (by omega)]
      have := hvg j hj2
      rw [List.getD_eq_getElem?_getD, hj] at this
      rw [← this]
      rfl
    have hst := r_stores P b o t fz vs 0 cur W hw hz (by omega) hv1
    cases hq : P.info? elem with
    | none => rw [hq] at hs; cases hs
    | some i =>
      have hi : i.size = K := by rw [hq] at hs; exact Option.some.inj hs
      simp [Builtin.copy_, run_underlying hu, Builtin.lenOf, sizeOf, typeInfo, hq, hi, hn, hfc, hst, setB]
end
end Go.Proofs.YtepmjghgnhklfaaGreatDoor.det
namespace Go.Proofs.YtepmjghgnhklfaaGreatDoor.det
open Go Go.RowKit
def okTrue (r : Option (Value × Mem)) : Bool := match r with | some (.bool true, _) => true | _ => false
theorem of_run {E : Env} {P : Program} (H : EnvOk E P) {n G : Nat} {f : FuncId} (hE : E.G = G) (hG : G ≤ lim) (h : okTrue ((run E n).2 f [] ⟨.nil, G, lim⟩) = true) (W : World) :
    (callFunc f #[]).run P W = .ok (.enter f #[]) W ∧ Calls P f #[] W fun e W' => e = .returned (.bool true) ∧ Below W.heap.size W W' := by
  have F := (run_ok H n).2
  generalize (run E n).2 = rf at F h
  generalize hr : rf f [] ⟨.nil, G, lim⟩ = r at h
  unfold okTrue at h
  split at h
  · rename_i M1
    have hM : Rm P (fun n => (n, 0)) (fun n => n < G) ⟨.nil, G, lim⟩ W := by
      have hn : ∀ a o, (⟨.nil, G, lim⟩ : Mem).get a = some o → False := fun a o h => by
        unfold Mem.get at h
        rw [Tr.get_nil] at h
        cases h
      exact ⟨fun a b oa ob ha _ _ => (hn a oa ha).elim, fun a o ha => (hn a o ha).elim, fun a o ha => (hn a o ha).elim, fun n hn => Or.inl hn, fun n hn => Nat.lt_of_lt_of_le hn hG, Nat.le_refl _⟩
    have hK : GOK (fun n => (n, 0)) (fun n => n < G) E.G := fun g hg => ⟨by rw [hE] at hg; exact hg, rfl⟩
    obtain ⟨h1, h2⟩ := F f [] _ _ M1 hr _ _ #[] W hM hK AsR.nil
    refine ⟨h1, (callsIn_wide.mp h2).mono fun e W' he => ?_⟩
    cases e with
    | returned v =>
      obtain ⟨ρ', A', hv, hs⟩ := he
      cases hv
      refine ⟨rfl, hs.os, hs.tape, hs.output, hs.size, fun k hk => hs.frame k hk (fun n o hn => ?_)⟩
      unfold Mem.get at hn
      rw [Tr.get_nil] at hn
      cases hn
    | _ => exact he.elim
  · cases h
/-- a function without arguments that answers true, and turns nothing that was there -/
noncomputable def closedS : Sum := fun args M => match args with | [] => some (.bool true, M) | _ => none
theorem closedS_ok {P : Program} {G : Nat} {f : FuncId} (hC : ∀ W : World, (callFunc f #[]).run P W = .ok (.enter f #[]) W ∧ Calls P f #[] W fun e W' => e = .returned (.bool true) ∧ Below W.heap.size W W') : SumAt P G f closedS := by
  intro args M v M' h ρ A args' w hM _ ha
  unfold closedS at h
  split at h
  · simp only [Option.some.injEq, Prod.mk.injEq] at h
    obtain ⟨rfl, rfl⟩ := h
    have h0 : args' = #[] := by
      have := ha.1
      simp only [List.length_nil] at this
      exact Array.eq_empty_of_size_eq_zero this.symm
    subst h0
    obtain ⟨h1, h2⟩ := hC w
    refine Or.inl ⟨h1, callsIn_wide.mpr (h2.mono fun e w' he => ?_)⟩
    obtain ⟨rfl, hbel⟩ := he
    exact ⟨ρ, A, .bool _, St.below hM hbel⟩
  · cases h
/-- one summary more -/
theorem EnvOk.plus {E : Env} {P : Program} (H : EnvOk E P) {f : FuncId} {S : Sum} (hf : f + 1 < 2 ^ 64) (hS : SumAt P E.G f S) : EnvOk ⟨E.D, E.G, E.fns, E.sums.set 64 f (some S)⟩ P := by
  obtain ⟨h1, h2, h3, h4⟩ := H
  refine ⟨h1, h2, fun g cf hg => ?_, fun g S' hg => ?_⟩
  · obtain ⟨a, b, c, d⟩ := h3 g cf hg
    exact ⟨a, b, c, d⟩
  · have hg' : (E.sums.set 64 f (some S)).get g = some S' := hg
    rw [Tr.get_set 64 _ _ _ _ hf] at hg'
    by_cases e : g = f
    · rw [if_pos e] at hg'
      injection hg' with hg'
      subst hg' e
      exact hS
    · rw [if_neg e] at hg'
      exact h4 g S' hg'
end Go.Proofs.YtepmjghgnhklfaaGreatDoor.det
