/-
  Texts of the proof joined by a program: Qtb Tok Tol Tom.
-/
import Derived.Test.YtendlmdmbkcdnaaGreatDoorVg
import Derived.Test.YtendlmdmbkcdnaaGreatDoorVo
set_option linter.unusedSimpArgs false
set_option linter.unusedVariables false
namespace Go.Proofs.YtendlmdmbkcdnaaGreatDoor.oc
open Go
open Go.RowKit
structure Held (Φ : World -> Prop) where
 w : World
 h : Φ w
def HC (Φ : World -> Prop) : World -> Prop := fun W => ∃ p : Held Φ, W = p.w
section
variable {P : Program} {ops : Array Oper} {Φ : World -> Prop}
theorem HC.of {W : World} (h : Φ W) : HC Φ W := ⟨⟨W, h⟩, rfl⟩
theorem HC.out {W : World} (h : HC Φ W) : Φ W := by
 obtain ⟨p, rfl⟩ := h
 exact p.h
def QFalse : Exit -> Act -> World -> Prop := fun _ _ _ => False
theorem wp_ofF {o : Oper} {a : Act} {w : World} {K K' : Act -> World -> Prop} {Q : Exit -> Act -> World -> Prop} (h : ∀ a w, K a w -> K' a w) (hh : o.wp P a w K QFalse) : o.wp P a w K' Q := by
 unfold Oper.wp at *
 generalize (execOp a.eval o).run P w = r at *
 cases r with
 | ok n w' =>
  cases n <;> simp only [Oper.upon] at hh ⊢ <;>
   first
    | exact h _ _ hh
    | exact Calls.mono hh (fun e w'' he => by
      cases e
      ·exact h _ _ he
      ·exact he.elim
      ·obtain ⟨_, _, x⟩ := he; exact x.elim)
    | exact Rows.mono hh (fun _ _ he => h _ _ he)
 | halt x w' => cases x <;> simp only [Oper.upon] at hh ⊢ <;> exact hh.elim
theorem wp_toF {o : Oper} {a : Act} {w : World} {K K' : Act -> World -> Prop} {Q : Exit -> Act -> World -> Prop} (hQ : ∀ e a w, e ≠ .normal -> ¬ Q e a w) (h : ∀ a w, K a w -> K' a w) (hh : o.wp P a w K Q) : o.wp P a w K' QFalse := by
 unfold Oper.wp at *
 generalize (execOp a.eval o).run P w = r at *
 cases r with
 | ok n w' =>
  cases n <;> simp only [Oper.upon] at hh ⊢ <;>
   first
    | exact h _ _ hh
    | exact Calls.mono hh (fun e w'' he => by
      cases e
      ·exact h _ _ he
      ·exact (hQ _ _ _ (by simp) he).elim
      ·obtain ⟨_, _, x⟩ := he; exact (hQ _ _ _ (by simp) x).elim)
    | exact Rows.mono hh (fun _ _ he => h _ _ he)
 | halt x w' => cases x <;> simp only [Oper.upon] at hh ⊢ <;> first | exact (hQ _ _ _ (by simp) hh).elim | exact hh.elim
def opI (P : Program) (ops : Array Oper) (i : Nat) (K : Act -> World -> Prop) (a : Act) (w : World) : Prop := match ops[i]? with
 | none => False
 | some o => if Region.wanted o (yielded ops a.tmps) then o.wp P a w K QFalse else K (a.put o.dst undef) w
theorem opI_mono {i : Nat} {a : Act} {w : World} {K K' : Act -> World -> Prop} (h : ∀ a w, K a w -> K' a w) (hh : opI P ops i K a w) : opI P ops i K' a w := by
 unfold opI at *
 split
 ·rename_i ho; simp only [ho] at hh
 ·rename_i o ho
  simp only [ho] at hh
  split
  ·rename_i hw; simp only [hw, if_true] at hh; exact wp_ofF h hh
  ·rename_i hw; simp only [hw] at hh; exact h _ _ hh
theorem wpOp_of_opI {i : Nat} {a : Act} {w : World} {K K' : Act -> World -> Prop} {Q : Exit -> Act -> World -> Prop} (h : ∀ a w, K a w -> K' a w) (hh : opI P ops i K a w) : wpOp P ops Q i K' a w := by
 unfold opI at hh
 unfold wpOp
 split
 ·rename_i ho; simp only [ho] at hh
 ·rename_i o ho
  simp only [ho] at hh
  split
  ·rename_i hw; simp only [hw, if_true] at hh; exact .inl (wp_ofF h hh)
  ·rename_i hw; simp only [hw] at hh; exact h _ _ hh
def StillIn (P : Program) (ops : Array Oper) (Φ : World -> Prop) (o : Oper) (v : Value) (a : Act) : Prop :=
 (Region.wanted o (yielded ops a.tmps) = true /\ ∀ w, Φ w -> o.quietAt P a (fun w' => w' = w) w v) \/ (Region.wanted o (yielded ops a.tmps) = false /\ v = undef)
theorem StillIn.opI {i : Nat} {o : Oper} {v : Value} {a : Act} {w : World} {K : Act -> World -> Prop} (hi : ops[i]? = some o) (hy : StillIn P ops Φ o v a) (hw : Φ w) (h : K (a.put o.dst v) w) : opI P ops i K a w := by
 unfold oc.opI
 simp only [hi]
 rcases hy with ⟨hwt, hv⟩ | ⟨hwt, rfl⟩
 ·simp only [hwt, if_true]
  have h3 := hv w hw
  unfold Oper.quietAt at h3
  unfold Oper.wp
  generalize (execOp a.eval o).run P w = r at *
  cases r with
  | ok n w' =>
   cases n <;> simp only [Oper.quietUpon] at h3 <;> simp only [Oper.upon]
   case value u =>
    obtain ⟨e1, e2⟩ := h3
    rw [e1, e2]
    exact h
   case skip =>
    obtain ⟨e1, e2⟩ := h3
    rw [e1, <- e2]
    exact h
   case enter f args =>
    obtain ⟨e1, hc⟩ := h3
    rw [e1]
    exact hc.mono fun e w'' ⟨he, hw''⟩ => by subst he; subst hw''; exact h
  | halt x w' => simp only [Oper.quietUpon] at h3
 ·simp only [hwt, Bool.false_eq_true, if_false]
  exact h
theorem StillIn.of_same {o : Oper} {v : Value} {a a' : Act} (hy : StillIn P ops Φ o v a) (he : execOp a'.eval o = execOp a.eval o)
  (hw : Region.wanted o (yielded ops a'.tmps) = Region.wanted o (yielded ops a.tmps)) : StillIn P ops Φ o v a' := by
 unfold StillIn Oper.quietAt at *
 rw [he, hw]
 exact hy
theorem opI_put {j : Nat} {oi oj : Oper} {v : Value} (hj : ops[j]? = some oj) (hap : oi.apart ops oj = true)
  (hsi : ∀ cs b, oi.op ≠ .select cs b) (hsj : ∀ cs b, oj.op ≠ .select cs b) {K : Act -> World -> Prop} {a : Act} {w : World}
  (hy : StillIn P ops Φ oi v a) (h : opI P ops j K (a.put oi.dst v) w) :
  opI P ops j (fun a' w' => StillIn P ops Φ oi v a' /\ K (a'.put oi.dst v) w') a w := by
 obtain ⟨h1, h2, h3⟩ := Oper.apart_spec hap
 have keep : ∀ (a : Act), StillIn P ops Φ oi v a -> ∀ u, StillIn P ops Φ oi v (a.put oj.dst u) := fun a hy u =>
  hy.of_same (execOp_put oi hsi a oj.dst u h3) (wanted_put oi a oj.dst u h3)
 have keepD : ∀ d, StillIn P ops Φ oi v { a with defers := d :: a.defers } := fun d => hy.of_same rfl rfl
 unfold opI at *
 simp only [hj] at *
 rw [wanted_put oj a oi.dst v h1] at h
 split
 ·rename_i hw
  simp only [hw, if_true] at h
  unfold Oper.wp at *
  rw [execOp_put oj hsj a oi.dst v h1] at h
  generalize (execOp a.eval oj).run P w = r at *
  cases r with
  | ok n w' =>
   cases n <;> simp only [Oper.upon] at h ⊢
   case value u => exact ⟨keep a hy u, by rw [<- Act.put_comm a v u h2]; exact h⟩
   case skip => exact ⟨keep a hy _, by rw [<- Act.put_comm a v undef h2]; exact h⟩
   case defer d =>
    refine ⟨keep _ (keepD d) _, ?_⟩
    rw [<- Act.put_comm _ v undef h2, <- Act.put_defers]
    exact h
   case enter f args =>
    refine Calls.mono h fun e w'' he => ?_
    cases e with
    | returned u => exact ⟨keep a hy u, by rw [<- Act.put_comm a v u h2]; exact he⟩
    | panicked c => exact he
    | outgrown => exact he
   case row row args => exact Rows.mono h fun u w'' he => ⟨keep a hy u, by rw [<- Act.put_comm a v u h2]; exact he⟩
  | halt x w' =>
   cases x <;> simp only [Oper.upon] at h ⊢
   case panic u => exact h
 ·rename_i hw
  simp only [hw] at h
  exact ⟨keep a hy _, by rw [<- Act.put_comm a v undef h2]; exact h⟩
def headI (P : Program) (ops : Array Oper) (Φ : World -> Prop) (n : Nat) (L : Array Bool -> Act -> World -> Prop) : Nat -> Array Bool -> Act -> World -> Prop
 | 0, listed, a, w => Φ w /\ (∀ j ∈ Region.ready .any ops listed, n <= j) /\ L listed a w
 | f + 1, listed, a, w => Φ w /\ Region.ready .any ops listed ≠ [] /\ ∀ i ∈ Region.ready .any ops listed, i < n /\ opI P ops i (headI P ops Φ n L f (listed.setIfInBounds i true)) a w
theorem wpAny_of_headI {n g : Nat} {L : Array Bool -> Act -> World -> Prop} {Q : Exit -> Act -> World -> Prop} (hL : ∀ listed a w, L listed a w -> wpAny P .any ops Q g listed a w) :
  ∀ (f : Nat) (listed : Array Bool) (a : Act) (w : World), headI P ops Φ n L f listed a w -> wpAny P .any ops Q (g + f) listed a w := by
 intro f
 induction f with
 | zero => intro listed a w h; exact hL _ _ _ h.2.2
 | succ f ih =>
  intro listed a w h
  exact ⟨fun h0 => absurd h0 h.2.1, fun i hi => wpOp_of_opI (fun a' w' h' => ih _ a' w' h') (h.2.2 i hi).2⟩
theorem headI_take {n i : Nat} {oi : Oper} {v : Value} {L : Array Bool -> Act -> World -> Prop} (hi : ops[i]? = some oi) (hsel : ∀ (j : Nat) (o : Oper) cs b, ops[j]? = some o -> o.op ≠ .select cs b)
  (hs : sinksB ops 0 n = true) (hc : Region.chainB .any ops n = true) (hn : n < ops.size) (hin : i < n) :
  ∀ (f : Nat) (listed : Array Bool) (a : Act) (w : World), HeadInv .any ops n listed ->
   (∀ j oj, ops[j]? = some oj -> j ≠ i -> listed.getD j true = false -> (∀ e ∈ oj.after, Region.binds .any e = true -> e.on ≠ i) -> oi.apart ops oj = true) ->
   i ∈ Region.ready .any ops listed -> StillIn P ops Φ oi v a ->
   headI P ops Φ n L f (listed.setIfInBounds i true) (a.put oi.dst v) w -> headI P ops Φ n L (f + 1) listed a w := by
 intro f
 induction f with
 | zero =>
  intro listed a w inv _ hr hy H
  refine ⟨H.1, fun h => (by rw [h] at hr; cases hr), fun j hj => ?_⟩
  have hjn : j < n := Nat.lt_of_not_le fun h => no_tail hs hc inv hn _ i rfl (Nat.zero_le _) hin (mem_ready.1 hr).1 j h hj
  refine ⟨hjn, ?_⟩
  by_cases hji : j = i
  ·subst hji; exact hy.opI hi H.1 H
  ·have := H.2.1 j (ready_mono hj hji)
   omega
 | succ f ih =>
  intro listed a w inv hfree hr hy H
  have hun := (mem_ready.1 hr).1
  refine ⟨H.1, fun h => (by rw [h] at hr; cases hr), fun j hj => ?_⟩
  have hjn : j < n := Nat.lt_of_not_le fun h => no_tail hs hc inv hn _ i rfl (Nat.zero_le _) hin hun j h hj
  refine ⟨hjn, ?_⟩
  by_cases hji : j = i
  ·subst hji; exact hy.opI hi H.1 H
  ·obtain ⟨hju, oj, hoj, hall⟩ := mem_ready.1 hj
   have hno : ∀ e ∈ oj.after, Region.binds .any e = true -> e.on ≠ i := fun e he hb hon => by
    have h2 := hall e he hb
    rw [hon, getD_both hun] at h2
    cases h2
   have h1 := opI_put hoj (hfree j oj hoj hji hju hno) (fun cs b => hsel i oi cs b hi) (fun cs b => hsel j oj cs b hoj) hy (H.2.2 j (ready_mono hj hji)).2
   refine opI_mono (fun a' w' h3 => ?_) h1
   refine ih (listed.setIfInBounds j true) a' w' (inv.set hj hjn) (fun k ok hk hki hku hkn => hfree k ok hk hki ?_ hkn) (ready_mono hr (Ne.symm hji)) h3.1 ?_
   ·by_cases hjk : j = k
    ·subst hjk; exact hju
    ·rw [getD_set_ne true hjk] at hku; exact hku
   ·rw [Array.setIfInBounds_comm _ _ hji]; exact h3.2
def noEnter : Op -> Bool
 | .move _ | .assign _ | .pick .. | .load .. | .build .. | .binOp .. | .unOp .. | .convert .. | .fieldAddr .. | .field .. | .indexAddr .. | .index .. | .lookup .. | .extract .. | .makeFunc .. => true
 | .nilCheck _ => true
 | .call c => match c.callee with
  | .builtin .len | .builtin .max | .builtin .min => true
  | _ => false
 | _ => false
theorem value_ne {s : Sem Value} {w w' : World} {f : FuncId} {args : Array Value} : (do pure (Next.value (<- s)) : Sem Next).run P w ≠ .ok (.enter f args) w' := by
 rw [Sem.run_bind]
 cases s.run P w with
 | ok x w1 => simp [Result.andThen]
 | halt x w1 => simp [Result.andThen]
theorem value_ne2 {r : Result Value} {w' : World} {f : FuncId} {args : Array Value} : (r.andThen fun a w => Result.ok (Next.value a) w) ≠ .ok (.enter f args) w' := by
 cases r with
 | ok x w1 => simp [Result.andThen]
 | halt x w1 => simp [Result.andThen]
theorem not_enter {o : Oper} (h : noEnter o.op = true) (ρ : Operand -> Value) (w w' : World) (f : FuncId) (args : Array Value) : (execOp ρ o).run P w ≠ .ok (.enter f args) w' := by
 obtain ⟨dst, op, type, pos, after, guard⟩ := o
 cases op <;> simp only [noEnter, Bool.false_eq_true] at h <;> simp only [execOp] <;> first
  | exact value_ne
  | (simp [Sem.run_pure]; done)
  | skip
 case pick c a b =>
  rw [Sem.run_bind]
  cases (asBool (ρ c)).run P w with
  | ok x w1 => simp [Result.andThen, Sem.run_pure]
  | halt x w1 => simp [Result.andThen]
 case nilCheck x =>
  split
  ·simp [runtimePanic, Sem.run]
  ·simp [runtimePanic]
  ·simp [runtimePanic]
  ·split
   ·simp [runtimePanic]
   ·simp only [Sem.run_bind, run_program, Result.andThen_ok]
    generalize Sem.run P (nilAhead _ _ _ _) w = r
    cases r with
    | ok x w1 =>
     simp only [Result.andThen_ok]
     split
     ·simp [Result.andThen]
     ·simp
    | halt x w1 => simp [Result.andThen]
   ·simp [Sem.run_pure]
  ·simp [Sem.run_pure]
 case call c =>
  obtain ⟨callee, cargs, cts⟩ := c
  cases callee with
  | builtin b =>
   cases b <;> simp only [Bool.false_eq_true] at h <;> simp only [resolve, invoke, builtin, Sem.run_bind, Sem.run_pure, Result.andThen_ok] <;> exact value_ne2
  | value _ => simp at h
  | invoke _ _ => simp at h
theorem still_of {o : Oper} {a : Act} {w : World} {v : Value} (hn : noEnter o.op = true) (hΦ : Φ w) (h : o.quietAt P a (HC Φ) w v) : o.quietAt P a (fun w' => w' = w) w v := by
 have hne := not_enter (P := P) hn a.eval w
 unfold Oper.quietAt at *
 generalize (execOp a.eval o).run P w = r at *
 cases r with
 | ok n w' =>
  cases n <;> simp only [Oper.quietUpon] at h ⊢
  case value u => exact h
  case skip => exact h
  case enter f args => exact absurd rfl (hne w' f args)
 | halt x w' => simp only [Oper.quietUpon] at h
def setAll (listed : Array Bool) : List Nat -> Array Bool
 | [] => listed
 | i :: is => setAll (listed.setIfInBounds i true) is
def batchB (ops : Array Oper) (n : Nat) : Array Bool -> List Nat -> Bool
 | _, [] => true
 | listed, i :: is => decide (i < n) && (Region.ready .any ops listed).contains i && Region.free .any ops listed i && (match ops[i]? with | some o => noEnter o.op | none => false) && batchB ops n (listed.setIfInBounds i true) is
def invB (ops : Array Oper) (n : Nat) (listed : Array Bool) : Bool :=
 listed.size == ops.size && ((List.range ops.size).all fun j => match ops[j]? with | some o => !listed.getD j false || o.after.all fun e => !Region.binds .any e || listed.getD e.on false | none => true) && (List.range ops.size).all fun t => decide (t < n) || !listed.getD t true
theorem invB_spec {n : Nat} {listed : Array Bool} (h : invB ops n listed = true) : HeadInv .any ops n listed := by
 simp only [invB, Bool.and_eq_true, beq_iff_eq, List.all_eq_true, List.mem_range, Bool.or_eq_true, decide_eq_true_eq, Bool.not_eq_true'] at h
 obtain ⟨⟨h1, h2⟩, h3⟩ := h
 refine ⟨h1, fun j oj hj hl e he hb => ?_, fun t ht hts => (h3 t hts).resolve_left (by omega)⟩
 have := h2 j (Array.getElem?_eq_some_iff.1 hj).1
 simp only [hj, Bool.or_eq_true, Bool.not_eq_true', hl, Bool.true_eq_false, false_or, Array.all_eq_true_iff_forall_mem] at this
 have := this e he
 simpa [hb] using this
theorem headI_batch_is {n f : Nat} {L : Array Bool -> Act -> World -> Prop} {w : World} (hsel : Region.noSelect ops = true) (hs : sinksB ops 0 n = true) (hc : Region.chainB .any ops n = true) (hn : n < ops.size) (hΦ : Φ w) :
  ∀ (is : List Nat) (listed : Array Bool) (a : Act), HeadInv .any ops n listed -> batchB ops n listed is = true ->
   wpQuiet P ops (HC Φ) (fun a' => headI P ops Φ n L f (setAll listed is) a' w) (is.filterMap fun i => ops[i]?) a -> headI P ops Φ n L (f + is.length) listed a w := by
 intro is
 induction is with
 | nil => intro listed a _ _ h; exact h
 | cons i is ih =>
  intro listed a inv hB h
  simp only [batchB, Bool.and_eq_true, decide_eq_true_eq] at hB
  obtain ⟨⟨⟨⟨hin, hr⟩, hf⟩, hne⟩, hB'⟩ := hB
  cases ho : ops[i]? with
  | none => rw [ho] at hne; cases hne
  | some o =>
   rw [ho] at hne
   have hri : i ∈ Region.ready .any ops listed := by simpa using hr
   rw [List.filterMap_cons, ho] at h
   obtain ⟨v, hy, hK⟩ := yieldsIn_of_qOp (P := P) (C := HC Φ) (K := wpQuiet P ops (HC Φ) (fun a' => headI P ops Φ n L f (setAll listed (i :: is)) a' w) (is.filterMap fun i => ops[i]?)) ho (by unfold qOp; simp only [ho]; exact h)
   have hst : StillIn P ops Φ o v a := by
    rcases hy with ⟨h1, h2⟩ | h1
    ·exact .inl ⟨h1, fun w' hw' => still_of hne hw' (h2 w' (HC.of hw'))⟩
    ·exact .inr h1
   exact headI_take ho (Region.noSelect_spec hsel) hs hc hn hin (f + is.length) listed a w inv (Region.free_spec ho hf) hri hst (ih _ _ (inv.set hri hin) hB' hK)
def batchOk (ops : Array Oper) (n : Nat) (listed : Array Bool) (k m : Nat) : Bool := quietTailB ops 0 n && invB ops n listed && batchB ops n listed (List.range' k m)
theorem range_take (l : List Oper) : ∀ (m k : Nat), k + m <= l.length -> ((List.range' k m).filterMap fun i => l.toArray[i]?) = (l.drop k).take m
 | 0, k, _ => by simp
 | m + 1, k, h => by
  have hk : k < l.length := by omega
  rw [List.range'_succ, List.filterMap_cons]
  have e : l.toArray[k]? = some l[k] := by simp [hk]
  simp only [e]
  rw [List.drop_eq_getElem_cons hk, List.take_succ_cons, range_take l m (k + 1) (by omega)]
theorem headI_batch {n f : Nat} {l : List Oper} {L : Array Bool -> Act -> World -> Prop} {listed : Array Bool} {a : Act} {w : World} (k m : Nat) (hm : decide (k + m <= l.length) = true) (hB : batchOk l.toArray n listed k m = true) (hΦ : Φ w)
  (h : wpQuiet P l.toArray (fun W => ∃ p : Held Φ, W = p.w) (fun a' => headI P l.toArray Φ n L f (setAll listed (List.range' k m)) a' w) ((l.drop k).take m) a) : headI P l.toArray Φ n L (f + m) listed a w := by
 simp only [batchOk, quietTailB, Bool.and_eq_true, decide_eq_true_eq] at hB hm
 obtain ⟨⟨⟨⟨⟨⟨hsel, _⟩, hn⟩, hs⟩, hc⟩, hi⟩, hb⟩ := hB
 have := headI_batch_is (f := f) (L := L) hsel hs hc hn hΦ (List.range' k m) listed a (invB_spec hi) hb (by rw [range_take l m k hm]; exact h)
 rwa [List.length_range'] at this
def QK (K : Act -> World -> Prop) : Exit -> Act -> World -> Prop := fun e a w => e = .normal /\ K a w
theorem opI_of_list {K : Act -> World -> Prop} {l : List Oper} {m : Nat} {a : Act} {w : World} (hm : m < l.length) (h : wpList P l.toArray (QK K) ((l.drop m).take 1) a w) : opI P l.toArray m K a w := by
 have e : l.toArray[m]? = some l[m] := by simp [hm]
 rw [List.drop_eq_getElem_cons hm, List.take_succ_cons, List.take_zero] at h
 unfold opI
 simp only [e]
 unfold wpList at h
 split
 ·rename_i hw
  rw [if_pos hw] at h
  rcases h with h | ⟨_, x⟩
  ·exact wp_toF (Q := QK K) (fun e a w hne hq => hne hq.1) (fun a w hk => hk.2) h
  ·obtain ⟨_, _, hx⟩ := x
   cases hx.1
 ·rename_i hw
  rw [if_neg hw] at h
  exact h.2
theorem headI_loud {n f : Nat} {l : List Oper} {L : Array Bool -> Act -> World -> Prop} {listed : Array Bool} {a : Act} {w : World} (m : Nat) (hr : Region.ready .any l.toArray listed = [m]) (hm : decide (m < n /\ m < l.length) = true) (hΦ : Φ w)
  (h : wpList P l.toArray (QK (headI P l.toArray Φ n L f (listed.setIfInBounds m true))) ((l.drop m).take 1) a w) : headI P l.toArray Φ n L (f + 1) listed a w := by
 simp only [decide_eq_true_eq] at hm
 refine ⟨hΦ, by rw [hr]; simp, fun i hi => ?_⟩
 rw [hr] at hi
 obtain rfl : i = m := by simpa using hi
 exact ⟨hm.1, opI_of_list hm.2 h⟩
theorem headI_loud2 {n f : Nat} {l : List Oper} {L : Array Bool -> Act -> World -> Prop} {listed : Array Bool} {a : Act} {w : World} (m k : Nat) (hr : Region.ready .any l.toArray listed = [m, k]) (hm : decide (m < n /\ m < l.length /\ k < n /\ k < l.length) = true) (hΦ : Φ w)
  (h : wpList P l.toArray (QK (headI P l.toArray Φ n L f (listed.setIfInBounds m true))) ((l.drop m).take 1) a w)
  (h' : wpList P l.toArray (QK (headI P l.toArray Φ n L f (listed.setIfInBounds k true))) ((l.drop k).take 1) a w) : headI P l.toArray Φ n L (f + 1) listed a w := by
 simp only [decide_eq_true_eq] at hm
 refine ⟨hΦ, by rw [hr]; simp, fun i hi => ?_⟩
 rw [hr] at hi
 rcases (by simpa using hi : i = m \/ i = k) with rfl | rfl
 ·exact ⟨hm.1, opI_of_list hm.2.1 h⟩
 ·exact ⟨hm.2.2.1, opI_of_list hm.2.2.2 h'⟩
theorem headI_loud3 {n f : Nat} {l : List Oper} {L : Array Bool -> Act -> World -> Prop} {listed : Array Bool} {a : Act} {w : World} (m k j : Nat) (hr : Region.ready .any l.toArray listed = [m, k, j]) (hm : decide (m < n /\ m < l.length /\ k < n /\ k < l.length /\ j < n /\ j < l.length) = true) (hΦ : Φ w)
  (h : wpList P l.toArray (QK (headI P l.toArray Φ n L f (listed.setIfInBounds m true))) ((l.drop m).take 1) a w)
  (h' : wpList P l.toArray (QK (headI P l.toArray Φ n L f (listed.setIfInBounds k true))) ((l.drop k).take 1) a w)
  (h'' : wpList P l.toArray (QK (headI P l.toArray Φ n L f (listed.setIfInBounds j true))) ((l.drop j).take 1) a w) : headI P l.toArray Φ n L (f + 1) listed a w := by
 simp only [decide_eq_true_eq] at hm
 refine ⟨hΦ, by rw [hr]; simp, fun i hi => ?_⟩
 rw [hr] at hi
 rcases (by simpa using hi : i = m \/ i = k \/ i = j) with rfl | rfl | rfl
 ·exact ⟨hm.1, opI_of_list hm.2.1 h⟩
 ·exact ⟨hm.2.2.1, opI_of_list hm.2.2.2.1 h'⟩
 ·exact ⟨hm.2.2.2.2.1, opI_of_list hm.2.2.2.2.2 h''⟩
theorem headI_end {n : Nat} {Q : Exit -> Act -> World -> Prop} {l : List Oper} {listed : Array Bool} {a : Act} {w : World} (hB : Region.seqB .any l.toArray (l.length - n) n listed = true) (hΦ : Φ w)
  (h : wpList P l.toArray Q (l.drop n) a w) : headI P l.toArray Φ n (fun listed a w => wpAny P .any l.toArray Q (l.length - n) listed a w) 0 listed a w := by
 refine ⟨hΦ, seqB_ready hB, ?_⟩
 have hd : (l.drop n).length = l.length - n := by simp
 have := wpAny_of_seq (md := .any) (Q' := Q) (l.drop n) n listed a w (fun j => by simp [List.getElem?_drop]) (by rw [hd]; exact hB) h
 rwa [hd] at this
theorem wp_region_head {id : Nat} {Q : Exit -> Act -> World -> Prop} {a : Act} {w : World} {l : List Oper} (n : Nat) (Φ : World -> Prop) (hm : P.follows .mixedOrders = true) (hn : decide (n <= l.length) = true)
  (h : ∀ w0 : World, w0.heap = w.heap -> Below w.heap.size w w0 -> headI P l.toArray Φ n (fun listed a w => wpAny P .any l.toArray Q (l.length - n) listed a w) n (Array.replicate l.toArray.size false) a w0) : (Code.region id l.toArray true).wp P Q a w := by
 simp only [decide_eq_true_eq] at hn
 refine wp_region_any hm ?_
 have := wpAny_of_headI (g := l.length - n) (Q := Q) (fun _ _ _ h => h) n _ _ _ (h w.drew rfl ((Below.refl _ _).drew))
 rw [show l.length - n + n = l.toArray.size by simp; omega] at this
 exact this
end
end Go.Proofs.YtendlmdmbkcdnaaGreatDoor.oc
namespace Go.Proofs.YtendlmdmbkcdnaaGreatDoor.tp
open Go.RowKit Go.Maps Go.WideMaps oc rc gh dk sg ma hi kd
open Go.Lib (hid)
set_option maxRecDepth 100000
theorem infoZ : (Tryz.prog.info? 3).map (fun i => (i.zero, i.size, i.bytes)) = some (some (.int .i64 0), 1, 8) := by kernel_rfl
def encN (l : List Nat) : List Value := l.map fun (x : Nat) => .int .i64 (x : Int)
theorem encN_len (l : List Nat) : (encN l).length = l.length := by simp [encN]
theorem encN_one (l : List Nat) : ∀ u ∈ encN l, u.oneCell' = true := by
 intro u hu
 simp only [encN, List.mem_map] at hu
 obtain ⟨x, _, rfl⟩ := hu
 rfl
abbrev PhE (bm bn n : Nat) (cs : Array Value) : World -> Prop := fun W => Blk W bm 67 cs /\ Blk W bn 3 #[.int .i64 (n : Int)]
set_option maxHeartbeats 4000000 in
theorem ext1_any (w : World) (bm bn B n : Nat) (cs : Array Value) (S : List Nat) (A : Option Addr) (c : Nat) (hm : Blk w bm 67 cs) (hc5 : cs[5]? = some (.slice A S.length c)) (hb : Blk w bn 3 #[.int .i64 (n : Int)])
  (hr : w.ownsRow B 3 1 (.slice A S.length c) S.length (encN S)) (hne : bm < B) (hnb : bn < B) (hB : B <= w.heap.size) (hl : S.length <= 64) :
  Calls Tryz.prog 97 #[.pointer (some ⟨bm, 0, none⟩), .pointer (some ⟨bn, 0, none⟩)] w fun e w' => e = .returned (.tuple #[]) /\ ∃ A' c', Blk w' bm 67 (cs.setIfInBounds 5 (.slice A' (S.length + 1) c')) /\ w'.ownsRow B 3 1 (.slice A' (S.length + 1) c') (S.length + 1) (encN (S ++ [n])) /\ Below bm w w' /\ ∀ i, i < w.heap.size -> i ≠ bm -> some i ≠ (Value.slice A S.length c).ownBlock -> w'.heap[i]? = w.heap[i]? := by
 obtain ⟨i0, hi, hz0, hz1, hz2⟩ := info_parts infoZ
 have HM := hid hm
 have HB := hid hb
 have HR := hid hr
 have HN : Hid (bm < B /\ B <= w.heap.size /\ bm < w.heap.size /\ bn < B) := hid ⟨hne, hB, hm.lt, hnb⟩
 have HMX : Hid (S.length + 1 <= maxLen) := hid (by unfold maxLen; omega)
 have HLM : Hid ((S.length + 1) * 8 <= 140737488355328) := hid (by omega)
 have k5 : ∀ p : Held (PhE bm bn n cs), p.w.cell? ⟨bm, 5, none⟩ = some (.slice A S.length c) := fun p => (p.h.1.cell 5).trans hc5
 have k0 : ∀ p : Held (PhE bm bn n cs), p.w.cell? ⟨bn, 0, none⟩ = some (.int .i64 (n : Int)) := fun p => (p.h.2.cell 0).trans rfl
 clear hm hb hr hne hnb hB hl
 go_enter Tryz.func97, Tryz.ntmps97
 go_wp2_with fail
 refine wp_region_head 10 (PhE bm bn n cs) (by kernel_rfl) (by kernel_rfl) (fun w0 hh0 hb0 => ?_)
 have HB0 := hid hb0
 have HH0 := hid hh0
 have HP0 := hid (⟨HM.out.below hb0 HM.out.lt, HB.out.below hb0 HB.out.lt⟩ : PhE bm bn n cs w0)
 have hne0 : Nonempty (Held (PhE bm bn n cs)) := ⟨⟨_, HP0.out⟩⟩
 clear hb0 hh0
 refine headI_batch 0 6 (by kernel_rfl) (by kernel_rfl) HP0.out ?_
 simp only [List.take, List.drop]
 repeat (first | go_big_quiet_skip | (go_big_quiet_want; go_big_quiet_op; go_big_quiet_on))
 refine wpQuiet_nil ?_
 refine headI_loud 6 (by kernel_rfl) (by kernel_rfl) HP0.out ?_
 simp only [List.take, List.drop]
 go_wp2_with fail
 refine ⟨rfl, ?_⟩
 have HP1 := hid (⟨HP0.out.1.alloc _, HP0.out.2.alloc _⟩ : PhE bm bn n cs (w0.alloc (.cells #[.int .i64 (n : Int)] 3)))
 refine headI_loud 7 (by kernel_rfl) (by kernel_rfl) HP1.out ?_
 simp only [List.take, List.drop]
 go_wp2_with (first
  | (at_builtin; go_must (refine wpList_append_own_at _ rfl _ _ 64 rfl B 3 i0 _ 1 8 Tryz.underlying64 hi hz0 hz1 hz2 rfl (by decide) (.slice A S.length c) S.length _ rfl ((own_below HR.out HB0.out).alloc _) ⟨w0.heap.size, 0, none⟩ 1 1 [.int .i64 (n : Int)] rfl rfl (by exact Go.Proofs.YtendlmdmbkcdnaaGreatDoor.dd.cells_new w0 3 [.int .i64 (n : Int)]) (by simp [Value.oneCell']) HMX.out HLM.out (Nat.le_trans HN.out.2.1 (by simp [HH0.out])) ?_; intro v3 w3 hown3 hgr3 _ hloc3; obtain ⟨A3, c3, rfl⟩ := own_slice hown3; have HO3 := hid hown3; have HG3 := hid hgr3; clear hown3 hgr3 hloc3))
  | fail)
 refine ⟨rfl, ?_⟩
 have HP3 := hid (⟨HP1.out.1.grown HG3.out (fun e => by have := (HR.out.lt _ e.symm).1; have := HN.out.1; omega), HP1.out.2.grown HG3.out (fun e => by have := (HR.out.lt _ e.symm).1; have := HN.out.2.2.2; omega)⟩ : PhE bm bn n cs w3)
 refine headI_batch 8 2 (by kernel_rfl) (by kernel_rfl) HP3.out ?_
 simp only [List.take, List.drop]
 repeat (first | go_big_quiet_skip | (go_big_quiet_want; go_big_quiet_op; go_big_quiet_on))
 refine wpQuiet_nil ?_
 refine headI_end (by kernel_rfl) HP3.out ?_
 simp only [List.take, List.drop]
 have f5 : w3.frozen? ⟨bm, 5, none⟩ = false := HP3.out.1.frozen 5
 have d5 : w3.cell? ⟨bm, 5, none⟩ = some (.slice A S.length c) := (HP3.out.1.cell 5).trans hc5
 clear k5 k0
 go_wp2_with fail
 go_end0
 refine ⟨rfl, A3, c3, HP3.out.1.set_ 5 _, ?_, ?_, fun j hj h1 h2 => ?_⟩
 ·have h9 := own_set (g := bm) (i := 5) HO3.out (fun e => by have := (HO3.out.lt _ e).1; have := HN.out.1; omega) (.slice A3 (S.length + 1) c3)
  simpa [encN] using h9
 ·exact ((((HB0.out.mono (Nat.le_of_lt HN.out.2.2.1)).alloc (Nat.le_trans (Nat.le_of_lt HN.out.2.2.1) HB0.out.size) _).grown HG3.out (Nat.le_trans (Nat.le_of_lt HN.out.2.2.1) (by have := HB0.out.size; simp; omega)) (fun k hk => by have := (HR.out.lt k hk).1; have := HN.out.1; omega))).setCell (by exact Nat.le_refl _) _
 ·refine (Below.heap_setCell _ _ _ _ (fun e => h1 e)).trans ((HG3.out.block j (by have := HB0.out.size; simp; omega) h2).trans ?_)
  rw [(World.grownBy_alloc w0 _ none).block j (by have := HB0.out.size; omega) (by simp)]
  exact HB0.out.block j hj
end Go.Proofs.YtendlmdmbkcdnaaGreatDoor.tp
namespace Go.Proofs.YtendlmdmbkcdnaaGreatDoor.tp
open Go.Lib (itoa decDigits)
open Go.RowKit Go.Maps Go.WideMaps oc rc gh dk sg ma hi kd
set_option maxRecDepth 100000
def fN (t : Int) (rest : List UInt8) : List UInt8 := 116 :: (itoa t ++ 46 :: rest)
def segR (s : Int) : List UInt8 := itoa s ++ 46 :: [115, 101, 103]
def hintR (s : Int) : List UInt8 := itoa s ++ 46 :: [104, 105, 110, 116]
def manR : List UInt8 := [109, 97, 110]
def tmpR : List UInt8 := [109, 97, 110, 46, 116, 109, 112]
theorem nameN_f (t s : Int) : nameN t s = fN t (segR s) := nameN_eq t s
theorem hintN_f (t s : Int) : hintN t s = fN t (hintR s) := by simp [hintN, fN, hintR]
theorem man_f (t : Int) : manName t = fN t manR := by simp [manName, fN, manR]
theorem tmp_f (t : Int) : tmpN (manName t) = fN t tmpR := by simp [manName, fN, tmpR, tmpN]
theorem fN_inj {t t' : Int} (h1 : okNum t = true) (h2 : okNum t' = true) {x y : List UInt8} (h : fN t x = fN t' y) : t = t' /\ x = y := by
 unfold fN at h
 injection h with _ h
 obtain ⟨e1, e2⟩ := digits_split (itoa_mem h1) (itoa_mem h2) h
 exact ⟨itoa_inj h1 h2 e1, e2⟩
theorem sbf_inj {t t' : Int} (h1 : okNum t = true) (h2 : okNum t' = true) {x y : List UInt8} (h : Sb (fN t x) = Sb (fN t' y)) : t = t' /\ x = y := fN_inj h1 h2 (sb_inj h)
theorem itoa_head {n : Int} (h : okNum n = true) : ∃ c l, itoa n = c :: l /\ c.toNat <= 57 := by
 cases e : itoa n with
 | nil =>
  have h0 : 0 <= n := by simp only [okNum, Bool.and_eq_true, decide_eq_true_eq] at h; exact h.1
  rw [itoa_nat h0] at e
  exact absurd e (decDigits_ne _)
 | cons c l => exact ⟨c, l, rfl, (itoa_mem h c (by rw [e]; exact List.mem_cons_self)).2⟩
theorem segR_inj {s s' : Int} (h1 : okNum s = true) (h2 : okNum s' = true) (h : segR s = segR s') : s = s' := itoa_inj h1 h2 (digits_split (itoa_mem h1) (itoa_mem h2) h).1
theorem hintR_inj {s s' : Int} (h1 : okNum s = true) (h2 : okNum s' = true) (h : hintR s = hintR s') : s = s' := itoa_inj h1 h2 (digits_split (itoa_mem h1) (itoa_mem h2) h).1
theorem seg_hint {s s' : Int} (h1 : okNum s = true) (h2 : okNum s' = true) : segR s ≠ hintR s' := fun h => by
 have := (digits_split (itoa_mem h1) (itoa_mem h2) h).2
 cases this
theorem seg_man {s : Int} (h1 : okNum s = true) : segR s ≠ manR := fun h => by
 obtain ⟨c, l, e, hc⟩ := itoa_head h1
 rw [segR, e] at h
 injection h with h _
 subst h
 revert hc
 decide
theorem seg_tmp {s : Int} (h1 : okNum s = true) : segR s ≠ tmpR := fun h => by
 obtain ⟨c, l, e, hc⟩ := itoa_head h1
 rw [segR, e] at h
 injection h with h _
 subst h
 revert hc
 decide
theorem hint_man {s : Int} (h1 : okNum s = true) : hintR s ≠ manR := fun h => by
 obtain ⟨c, l, e, hc⟩ := itoa_head h1
 rw [hintR, e] at h
 injection h with h _
 subst h
 revert hc
 decide
theorem hint_tmp {s : Int} (h1 : okNum s = true) : hintR s ≠ tmpR := fun h => by
 obtain ⟨c, l, e, hc⟩ := itoa_head h1
 rw [hintR, e] at h
 injection h with h _
 subst h
 revert hc
 decide
theorem man_tmp : manR ≠ tmpR := by decide
theorem okn {n : Nat} (h : n < 1073741824) : okNum (n : Int) = true := by simp [okNum]; omega
end Go.Proofs.YtendlmdmbkcdnaaGreatDoor.tp
namespace Go.Proofs.YtendlmdmbkcdnaaGreatDoor.tp
open Go.RowKit Go.Maps Go.WideMaps oc rc gh dk sg ma hi kd dd
open Go.Lib (hid)
set_option maxRecDepth 100000
def Cold (w : World) (G : Gh) (A : Option Addr) : Prop := ∀ p, A = some p -> p.block < w.heap.size /\ Is G p.block none
section
variable {C : Tag -> Role -> Prop} {G G' : Gh} {w w' : World} {A : Option Addr}
theorem Cold.keep (h : Cold w G A) (hF : Fx C G G' w w') : Cold w' G' A := fun p hp => ⟨Nat.lt_of_lt_of_le (h p hp).1 hF.size, (h p hp).2.keep hF (h p hp).1⟩
theorem Cold.cell (h : Cold w G A) (hF : Fx C G G' w w') (hC : ¬ C .other none) {b : Nat} {o : Nat} (hA : A = some ⟨b, o, none⟩) (j : Nat) : w'.cell? ⟨b, j, none⟩ = w.cell? ⟨b, j, none⟩ := by
 have h1 := h _ hA
 exact World.cell?_of_block (hF.keep b h1.1 (by rw [h1.2.1, h1.2.2]; exact hC))
theorem ints_keep {l : List Nat} (h : IntsAt w A l) (hc : Cold w G A) (hF : Fx C G G' w w') (hC : ¬ C .other none) : IntsAt w' A l := fun h0 => by
 obtain ⟨b, o, e, hb, hx⟩ := h h0
 exact ⟨b, o, e, Nat.lt_of_lt_of_le hb hF.size, fun j x hj => (hc.cell hF hC e _).trans (hx j x hj)⟩
theorem prs_keep {l : List PrS} (h : PrsAt w A l) (hc : Cold w G A) (hF : Fx C G G' w w') (hC : ¬ C .other none) : PrsAt w' A l := fun h0 => by
 obtain ⟨b, o, e, hb, hx⟩ := h h0
 exact ⟨b, o, e, Nat.lt_of_lt_of_le hb hF.size, fun j x hj => ⟨(hc.cell hF hC e _).trans (hx j x hj).1, (hc.cell hF hC e _).trans (hx j x hj).2.1, (hc.cell hF hC e _).trans (hx j x hj).2.2⟩⟩
end
theorem ints_reads {w : World} {A : Option Addr} {l : List Nat} (h : IntsAt w A l) : Reads w w.heap.size 1 A l.length (encN l) := by
 refine ⟨by rw [encN_len, Nat.mul_one], fun h0 => ?_⟩
 obtain ⟨b, off, e, hb, hc⟩ := h h0
 refine ⟨_, e, hb, fun j u hu => ?_⟩
 rw [add_flat]
 simp only [encN, List.getElem?_map, Option.map_eq_some_iff] at hu
 obtain ⟨x, hx, rfl⟩ := hu
 exact hc j x hx
theorem ints_own {w : World} {B n c : Nat} {A : Option Addr} {l : List Nat} (h : w.ownsRow B 3 1 (.slice A n c) n (encN l)) : IntsAt w A l := fun h0 => by
 have hn : 0 < n := by have := h.1; rw [encN_len, Nat.mul_one] at this; omega
 obtain ⟨g, cap, hv, _, hlt⟩ := h.form hn
 have hk := h.cells (g := g)
 rw [hv] at hk
 injection hv with hA _ _
 subst hA
 refine ⟨g, 0, rfl, hlt, fun j x hj => ?_⟩
 have := hk rfl j (.int .i64 (x : Int)) (by simp [encN, hj])
 rw [add_flat] at this
 exact this
theorem prs_own {w : World} {B n c : Nat} {A : Option Addr} {l : List PrS} (h : w.ownsRow B 208 3 (.slice A n c) n (l.flatMap prC)) : PrsAt w A l := fun h0 => by
 have hn : 0 < n := by have := h.1; rw [prC_len] at this; omega
 obtain ⟨g, cap, hv, _, hlt⟩ := h.form hn
 have hk := h.cells (g := g)
 rw [hv] at hk
 injection hv with hA _ _
 subst hA
 refine ⟨g, 0, rfl, hlt, fun j x hj => ?_⟩
 have e0 := hk rfl (j * 3 + 0) (.int .i64 (x.pid : Int)) (flat_get prC 3 (fun _ => rfl) l _ 0 x _ hj rfl)
 have e1 := hk rfl (j * 3 + 1) (.int .i64 (x.seq : Int)) (flat_get prC 3 (fun _ => rfl) l _ 1 x _ hj rfl)
 have e2 := hk rfl (j * 3 + 2) (.int .i64 (x.off : Int)) (flat_get prC 3 (fun _ => rfl) l _ 2 x _ hj rfl)
 rw [add_flat] at e0 e1 e2
 simp only [Nat.zero_add] at e0 e1 e2 ⊢
 exact ⟨e0, e1, e2⟩
theorem cold_own {w : World} {G : Gh} {B n c z : Nat} {t : TypeId} {A : Option Addr} {xs : List Value} (h : w.ownsRow B t z (.slice A n c) n xs) (hB : ∀ i, B <= i -> i < w.heap.size -> Is G i none) : Cold w G A := fun p hp => by
 rcases h.2 with ⟨hn, _⟩ | ⟨g, cap, cur, hv, hg, hx, _⟩
 ·simp only [Value.slice.injEq] at hn
  rw [hn.1] at hp
  cases hp
 ·injection hv with hv
  subst hv
  cases hp
  have hlt : g < w.heap.size := (Array.getElem?_eq_some_iff.1 hx).1
  exact ⟨hlt, hB g hg hlt⟩
def nextMan (i ns e k : Nat) (m : ManS) (n : Nat) (ps : List PrS) : ManS := ⟨i, ns, e, m.mark, k, m.segs ++ [n], ps⟩
def SaveOut (w : World) (G : Gh) (τ t : Nat) (c : Tc) (i ns en k n : Nat) (P : List PrS -> Int -> Gh -> World -> Prop) (e : Ending) (w' : World) : Prop :=
 ∃ v G' w1 ps, e = .returned (.int .i64 v) /\ ProdsOk en ps /\ ps.length <= 64 /\ P ps v G' w1 /\ Fin G' w1 /\ Fx CK G G' w w1 /\ (v ≠ 0 -> w' = w1) /\
  (v = 0 -> ∃ A c1 B c2, Blk w' t 110 (Tc.cells { c with man := nextMan i ns en k c.man n ps, sA := A, sc := c1, pA := B, pc := c2 }) /\ IntsAt w' A (c.man.segs ++ [n]) /\ Cold w' G' A /\ PrsAt w' B ps /\ Cold w' G' B /\ Fx (CR (some (τ, .top))) G' G' w1 w' /\ w'.heap.size = w1.heap.size)
abbrev PhS (t : Nat) (cs : Array Value) : World -> Prop := fun W => Blk W t 110 cs
set_option maxHeartbeats 8000000 in
theorem save_ext (w : World) (G : Gh) (τ t : Nat) (c : Tc) (h : Blk w t 110 c.cells) (hrt : Is G t (some (τ, .top))) (hf : Fin G w) (bn n i ns en k : Nat) (hb : Blk w bn 3 #[.int .i64 (n : Int)])
  (e1 : c.id = (i : Int)) (e2 : c.next = (en : Int)) (e3 : c.clock = (k : Int)) (e4 : c.nextSeg = (ns : Int)) (hs : IntsAt w c.sA c.man.segs) (hsl : c.man.segs.length <= 63) (mt mn : Nat) (D : DataW Unit) (hT : TabAt w c.tc mt mn D) (HT : TabOk D en)
  (HOK : ∀ ps, ProdsOk en ps -> ps.length <= 64 -> ManOk (nextMan i ns en k c.man n ps)) (hi1 : okNum (i : Int) = true) (ht : Tab w) (P : List PrS -> Int -> Gh -> World -> Prop)
  (J : ∀ ps W A c', ProdsOk en ps -> ps.length <= 64 -> Below w.heap.size w W -> W.ownsRow w.heap.size 5 1 (.slice A (manN (nextMan i ns en k c.man n ps)).length c') (manN (nextMan i ns en k c.man n ps)).length (bc (manN (nextMan i ns en k c.man n ps))) ->
   Calls Tryz.prog 205 #[.pointer (some ⟨c.d, 0, none⟩), .string (Sb (manName i)), .slice A (manN (nextMan i ns en k c.man n ps)).length c'] W fun e w' => ∃ v G', (v = 0 \/ v = 33) /\ e = .returned (.int .i64 v) /\ P ps v G' w' /\ Fx CK G G' W w' /\ Fin G' w') :
  Calls Tryz.prog 96 #[.pointer (some ⟨t, 0, none⟩), .func (.func 97) #[] #[.pointer (some ⟨bn, 0, none⟩)]] w (SaveOut w G τ t c i ns en k n P) := by
 obtain ⟨i0, hi, hz0, hz1, hz2⟩ := info_parts infoZ
 have HH := hid h
 have HB := hid hb
 have HS := hid hs
 have HN : Hid (t < w.heap.size /\ bn < w.heap.size /\ c.man.segs.length <= 63) := hid ⟨h.lt, hb.lt, hsl⟩
 have HT' := hid hT
 have HTO := hid HT
 have HJ := hid J
 have HOK' := hid HOK
 have HF := hid hf
 have HRT := hid hrt
 have HTB := hid ht
 have kM : ∀ (j : Nat) (v : Value), [Value.int .i64 (c.man.id : Int), .int .i64 (c.man.nextSeg : Int), .int .i64 (c.man.next : Int), .int .i64 (c.man.mark : Int), .int .i64 (c.man.clock : Int), .slice c.sA c.man.segs.length c.sc, .slice c.pA c.man.prods.length c.pc][j]? = some v -> w.cell? (Addr.add ⟨t, 4, none⟩ j) = some v := by
  intro j v hj
  rw [add_flat, h.cell, <- hj]
  rcases j with _ | _ | _ | _ | _ | _ | _ | j <;> first | rfl | simp at hj
 have E1 := hid e1
 have E2 := hid e2
 have E3 := hid e3
 have E4 := hid e4
 clear h hb hs hsl hT HT J HOK hf hrt ht e1 e2 e3 e4
 go_enter Tryz.func96, Tryz.ntmps96
 have KM := hid kM
 clear kM
 have KT : Hid (∀ W, Below w.heap.size w W -> ∀ (j : Nat) (v : Value), c.cells[j]? = some v -> W.cell? ⟨t, j, none⟩ = some v) := hid (fun W hb j v hj => ((HH.out.below hb HH.out.lt).cell j).trans hj)
 go_wp2_with (first
  | ((with_reducible refine at_op ⟨_, .load 67 (.tmp 9), _, _, _, _⟩ ?_); refine wpList_load_list rfl 67 (.tmp 9) rfl ⟨t, 4, none⟩ rfl [.int .i64 (c.man.id : Int), .int .i64 (c.man.nextSeg : Int), .int .i64 (c.man.next : Int), .int .i64 (c.man.mark : Int), .int .i64 (c.man.clock : Int), .slice c.sA c.man.segs.length c.sc, .slice c.pA c.man.prods.length c.pc] KM.out _ Tryz.underlying67 rfl (by kernel_rfl) ?_)
  | ((with_reducible refine at_op ⟨none, .store 67 (.tmp 5) (.tmp 10), _, _, _, _⟩ ?_); refine wpList_store_blk rfl 67 (.tmp 5) (.tmp 10) rfl w.heap.size 0 rfl [.int .i64 (c.man.id : Int), .int .i64 (c.man.nextSeg : Int), .int .i64 (c.man.next : Int), .int .i64 (c.man.mark : Int), .int .i64 (c.man.clock : Int), .slice c.sA c.man.segs.length c.sc, .slice c.pA c.man.prods.length c.pc] rfl (by simp [Value.oneCell']) 67 _ (Blk.new w _ _) (by simp) (by kernel_rfl) ?_; intro w2 hT2 hg2 _; have HM2 : Hid (Blk w2 w.heap.size 67 #[.int .i64 (c.man.id : Int), .int .i64 (c.man.nextSeg : Int), .int .i64 (c.man.next : Int), .int .i64 (c.man.mark : Int), .int .i64 (c.man.clock : Int), .slice c.sA c.man.segs.length c.sc, .slice c.pA c.man.prods.length c.pc]) := hid hT2; have HB2 : Hid (Below w.heap.size w w2) := hid (((Below.refl _ _).alloc (Nat.le_refl _) _).grown hg2 (by simp) (fun k hk => by injection hk with hk; omega)); have c1 : w2.cell? ⟨t, 1, none⟩ = some (.int .i64 (i : Int)) := KT.out w2 HB2.out 1 _ (by rw [<- E1.out]; rfl); clear hT2 hg2)
  | ((with_reducible refine at_op ⟨none, .store 3 (.tmp 16) (.tmp 15), _, _, _, _⟩ ?_); refine wpList_store_one rfl 3 (.tmp 16) (.tmp 15) rfl w.heap.size 0 rfl (.int .i64 (i : Int)) rfl rfl rfl 67 _ HM2.out (by simp) (by kernel_rfl) ?_; intro w3 hT3 hg3 _; have HM3 : Hid (Blk w3 w.heap.size 67 #[.int .i64 (i : Int), .int .i64 (c.man.nextSeg : Int), .int .i64 (c.man.next : Int), .int .i64 (c.man.mark : Int), .int .i64 (c.man.clock : Int), .slice c.sA c.man.segs.length c.sc, .slice c.pA c.man.prods.length c.pc]) := hid hT3; have HB3 : Hid (Below w.heap.size w w3) := hid (HB2.out.grown hg3 HB2.out.size (fun k hk => by injection hk with hk; omega)); have c5 : w3.cell? ⟨w.heap.size, 5, none⟩ = some (.slice c.sA c.man.segs.length c.sc) := (HM3.out.cell 5).trans rfl; have HSZ3 : Hid (w.heap.size < w3.heap.size) := hid hT3.lt; clear hT3 hg3 c1)
  | (at_builtin; go_must (refine wpList_append_any _ rfl _ _ 64 rfl (w.heap.size + 1) 3 i0 (.int .i64 0) 1 8 Tryz.underlying64 hi hz0 hz1 hz2 rfl (by decide) (.slice none 0 0) 0 [] rfl (World.ownsRow_nil _ _ _ _) _ c.sA c.man.segs.length c.sc (encN c.man.segs) rfl (ints_reads (HS.out.below HB3.out)) (encN_one _) (by have := HN.out; unfold maxLen; omega) (by have := HN.out; omega) (by have := HSZ3.out; omega) ?_; intro v4 w4 hown4 hgr4 _; rw [Nat.zero_add, List.nil_append] at hown4; obtain ⟨A4, c4, rfl⟩ := own_slice hown4; have HO4 := hid hown4; have HG4 : Hid (w3.grownBy w4 none) := hid hgr4; have HM4 := hid (HM3.out.grown hgr4 (by simp [Value.ownBlock])); have HB4 : Hid (Below w.heap.size w w4) := hid (HB3.out.grown hgr4 HB3.out.size (fun k hk => by simp [Value.ownBlock] at hk)); clear hown4 hgr4 c5))
  | ((with_reducible refine at_op ⟨none, .store 64 (.tmp 20) (.tmp 19), _, _, _, _⟩ ?_); refine wpList_store_one rfl 64 (.tmp 20) (.tmp 19) rfl w.heap.size 5 rfl (.slice A4 c.man.segs.length c4) rfl rfl rfl 67 _ HM4.out (by simp) (by kernel_rfl) ?_; intro w5 hT5 hg5 _; have HM5 : Hid (Blk w5 w.heap.size 67 #[.int .i64 (i : Int), .int .i64 (c.man.nextSeg : Int), .int .i64 (c.man.next : Int), .int .i64 (c.man.mark : Int), .int .i64 (c.man.clock : Int), .slice A4 c.man.segs.length c4, .slice c.pA c.man.prods.length c.pc]) := hid hT5; have HB5 : Hid (Below w.heap.size w w5) := hid (HB4.out.grown hg5 HB4.out.size (fun k hk => by injection hk with hk; omega)); have HO5 := hid (HO4.out.kept hg5 (Or.inr (fun e => by have := (HO4.out.lt _ e).1; omega))); clear hT5 hg5)
  | fail)
 simp only [Act.put]
 have HBT := hid (HH.out.below HB5.out HH.out.lt)
 refine wp_region_head 18 (PhS t c.cells) (by kernel_rfl) (by kernel_rfl) (fun w6 hh6 hb6 => ?_)
 have HB6 : Hid (Below w.heap.size w w6) := hid (HB5.out.trans (hb6.mono HB5.out.size))
 have HM6 := hid (HM5.out.below hb6 HM5.out.lt)
 have HO6 := hid (own_below HO5.out hb6)
 have HP6 := hid (HBT.out.below hb6 HBT.out.lt : PhS t c.cells w6)
 have hne0 : Nonempty (Held (PhS t c.cells)) := ⟨⟨_, HP6.out⟩⟩
 have k7 : ∀ p : Held (PhS t c.cells), p.w.cell? ⟨t, 16, none⟩ = some (.int .i64 (en : Int)) := fun p => (p.h.cell 16).trans (by rw [<- E2.out]; rfl)
 have k8 : ∀ p : Held (PhS t c.cells), p.w.cell? ⟨t, 17, none⟩ = some (.int .i64 (k : Int)) := fun p => (p.h.cell 17).trans (by rw [<- E3.out]; rfl)
 have k4 : ∀ p : Held (PhS t c.cells), p.w.cell? ⟨t, 13, none⟩ = some (.pointer (some ⟨c.tc, 0, none⟩)) := fun p => (p.h.cell 13).trans rfl
 clear hb6 hh6 HM5 HO5 HM4 HO4 HM3 HM2 HG4
 refine headI_batch 0 12 (by kernel_rfl) (by kernel_rfl) HP6.out ?_
 simp only [List.take, List.drop]
 repeat (first | go_big_quiet_skip | (go_big_quiet_want; go_big_quiet_op; go_big_quiet_on))
 refine wpQuiet_nil ?_
 refine headI_loud 12 (by kernel_rfl) (by kernel_rfl) HP6.out ?_
 simp only [List.take, List.drop]
 go_wp2_with fail
 refine (list_any w6 c.tc mt mn D en (HT'.out.below HB6.out) HTO.out).mono ?_
 rintro e w7 ⟨A7, c7, ps, rfl, hown7, hps, hlen, hb7⟩
 have HB7 : Hid (Below w.heap.size w w7) := hid (HB6.out.trans (hb7.mono HB6.out.size))
 have HM7 := hid (HM6.out.below hb7 HM6.out.lt)
 have HO7 := hid (own_below HO6.out hb7)
 have HP7 := hid (HP6.out.below hb7 HP6.out.lt : PhS t c.cells w7)
 have HQ7 := hid hown7
 have HPS := hid hps
 have HPL := hid hlen
 have HS67 : Hid (w.heap.size < w6.heap.size) := hid HM6.out.lt
 clear hown7 hps hlen hb7 HM6 HO6 k7 k8 k4
 go_wp2_with fail
 refine ⟨rfl, ?_⟩
 refine headI_batch 13 1 (by kernel_rfl) (by kernel_rfl) HP7.out ?_
 simp only [List.take, List.drop]
 repeat (first | go_big_quiet_skip | (go_big_quiet_want; go_big_quiet_op; go_big_quiet_on))
 refine wpQuiet_nil ?_
 refine headI_loud 14 (by kernel_rfl) (by kernel_rfl) HP7.out ?_
 simp only [List.take, List.drop]
 go_wp2_with (first
  | ((with_reducible refine at_op ⟨none, .store 2 (.tmp 34) (.tmp 24), _, _, _, _⟩ ?_); refine wpList_store_one rfl 2 (.tmp 34) (.tmp 24) rfl w.heap.size 2 rfl (.int .i64 (en : Int)) rfl rfl rfl 67 _ HM7.out (by simp) (by kernel_rfl) ?_; intro w8 hT8 hg8 _; have HM8 : Hid (Blk w8 w.heap.size 67 #[.int .i64 (i : Int), .int .i64 (c.man.nextSeg : Int), .int .i64 (en : Int), .int .i64 (c.man.mark : Int), .int .i64 (c.man.clock : Int), .slice A4 c.man.segs.length c4, .slice c.pA c.man.prods.length c.pc]) := hid hT8; have HB8 : Hid (Below w.heap.size w w8) := hid (HB7.out.grown hg8 HB7.out.size (fun k hk => by injection hk with hk; omega)); have HO8 := hid (HO7.out.kept hg8 (Or.inr (fun e => by have := (HO7.out.lt _ e).1; omega))); have HQ8 := hid (HQ7.out.kept hg8 (Or.inr (fun e => by have := (HQ7.out.lt _ e).1; have := HS67.out; omega))); have HP8 : Hid (PhS t c.cells w8) := hid (HP7.out.grown hg8 (fun e => by injection e with e; have := HN.out; omega)); clear hT8 hg8 HM7 HO7 HQ7)
  | fail)
 refine ⟨rfl, ?_⟩
 refine headI_batch 15 1 (by kernel_rfl) (by kernel_rfl) HP8.out ?_
 simp only [List.take, List.drop]
 repeat (first | go_big_quiet_skip | (go_big_quiet_want; go_big_quiet_op; go_big_quiet_on))
 refine wpQuiet_nil ?_
 refine headI_loud 16 (by kernel_rfl) (by kernel_rfl) HP8.out ?_
 simp only [List.take, List.drop]
 go_wp2_with (first
  | ((with_reducible refine at_op ⟨none, .store 2 (.tmp 35) (.tmp 28), _, _, _, _⟩ ?_); refine wpList_store_one rfl 2 (.tmp 35) (.tmp 28) rfl w.heap.size 4 rfl (.int .i64 (k : Int)) rfl rfl rfl 67 _ HM8.out (by simp) (by kernel_rfl) ?_; intro w9 hT9 hg9 _; have HM9 : Hid (Blk w9 w.heap.size 67 #[.int .i64 (i : Int), .int .i64 (c.man.nextSeg : Int), .int .i64 (en : Int), .int .i64 (c.man.mark : Int), .int .i64 (k : Int), .slice A4 c.man.segs.length c4, .slice c.pA c.man.prods.length c.pc]) := hid hT9; have HB9 : Hid (Below w.heap.size w w9) := hid (HB8.out.grown hg9 HB8.out.size (fun k hk => by injection hk with hk; omega)); have HO9 := hid (HO8.out.kept hg9 (Or.inr (fun e => by have := (HO8.out.lt _ e).1; omega))); have HQ9 := hid (HQ8.out.kept hg9 (Or.inr (fun e => by have := (HQ8.out.lt _ e).1; have := HS67.out; omega))); have HP9 : Hid (PhS t c.cells w9) := hid (HP8.out.grown hg9 (fun e => by injection e with e; have := HN.out; omega)); clear hT9 hg9 HM8 HO8 HQ8)
  | fail)
 refine ⟨rfl, ?_⟩
 refine headI_batch 17 1 (by kernel_rfl) (by kernel_rfl) HP9.out ?_
 simp only [List.take, List.drop]
 repeat (first | go_big_quiet_skip | (go_big_quiet_want; go_big_quiet_op; go_big_quiet_on))
 refine wpQuiet_nil ?_
 refine headI_end (by kernel_rfl) HP9.out ?_
 simp only [List.take, List.drop]
 go_wp2_with (first
  | ((with_reducible refine at_op ⟨none, .store 65 (.tmp 36) (.tmp 33), _, _, _, _⟩ ?_); refine wpList_store_one rfl 65 (.tmp 36) (.tmp 33) rfl w.heap.size 6 rfl (.slice A7 ps.length c7) rfl rfl rfl 67 _ HM9.out (by simp) (by kernel_rfl) ?_; intro w10 hT10 hg10 _; have HM10 : Hid (Blk w10 w.heap.size 67 #[.int .i64 (i : Int), .int .i64 (c.man.nextSeg : Int), .int .i64 (en : Int), .int .i64 (c.man.mark : Int), .int .i64 (k : Int), .slice A4 c.man.segs.length c4, .slice A7 ps.length c7]) := hid hT10; have HB10 : Hid (Below w.heap.size w w10) := hid (HB9.out.grown hg10 HB9.out.size (fun k hk => by injection hk with hk; omega)); have HO10 := hid (HO9.out.kept hg10 (Or.inr (fun e => by have := (HO9.out.lt _ e).1; omega))); have HQ10 := hid (HQ9.out.kept hg10 (Or.inr (fun e => by have := (HQ9.out.lt _ e).1; have := HS67.out; omega))); have HP10 : Hid (PhS t c.cells w10) := hid (HP9.out.grown hg10 (fun e => by injection e with e; have := HN.out; omega)); clear hT10 hg10 HM9 HO9 HQ9)
  | fail)
 have HBN := hid (HB.out.below HB10.out HB.out.lt)
 refine (ext1_any w10 w.heap.size bn (w.heap.size + 1) n #[.int .i64 (i : Int), .int .i64 (c.man.nextSeg : Int), .int .i64 (en : Int), .int .i64 (c.man.mark : Int), .int .i64 (k : Int), .slice A4 c.man.segs.length c4, .slice A7 ps.length c7] c.man.segs A4 c4 HM10.out rfl HBN.out HO10.out (by omega) (by have := HN.out; omega) (by have := HM10.out.lt; omega) (by have := HN.out; omega)).mono ?_
 rintro e w11 ⟨rfl, A11, c11, hm11, ho11, hb11, hk11⟩
 have HB11 : Hid (Below w.heap.size w w11) := hid (HB10.out.trans hb11)
 have HM11 : Hid (Blk w11 w.heap.size 67 #[.int .i64 (i : Int), .int .i64 (c.man.nextSeg : Int), .int .i64 (en : Int), .int .i64 (c.man.mark : Int), .int .i64 (k : Int), .slice A11 (c.man.segs.length + 1) c11, .slice A7 ps.length c7]) := hid hm11
 have HO11 := hid ho11
 have HQ11 : Hid (w11.ownsRow w6.heap.size 208 3 (.slice A7 ps.length c7) ps.length (ps.flatMap prC)) := hid (own_keepH HQ10.out (fun g hg => hk11 g (HQ10.out.lt g hg).2 (by have := (HQ10.out.lt g hg).1; have := HS67.out; omega) (fun e => own_disj HQ10.out HO10.out (by decide) g hg e.symm)))
 have HP11 : Hid (PhS t c.cells w11) := hid (HH.out.below HB11.out HH.out.lt)
 have c18 : w11.cell? ⟨t, 18, none⟩ = some (.int .i64 (ns : Int)) := KT.out w11 HB11.out 18 _ (by rw [<- E4.out]; rfl)
 clear hm11 ho11 hb11 HM10 HO10 HQ10
 go_wp2_with (first
  | ((with_reducible refine at_op ⟨none, .store 3 (.tmp 43) (.tmp 42), _, _, _, _⟩ ?_); refine wpList_store_one rfl 3 (.tmp 43) (.tmp 42) rfl w.heap.size 1 rfl (.int .i64 (ns : Int)) rfl rfl rfl 67 _ HM11.out (by simp) (by kernel_rfl) ?_; intro w12 hT12 hg12 _; have HM12 : Hid (Blk w12 w.heap.size 67 #[.int .i64 (i : Int), .int .i64 (ns : Int), .int .i64 (en : Int), .int .i64 (c.man.mark : Int), .int .i64 (k : Int), .slice A11 (c.man.segs.length + 1) c11, .slice A7 ps.length c7]) := hid hT12; have HB12 : Hid (Below w.heap.size w w12) := hid (HB11.out.grown hg12 HB11.out.size (fun k hk => by injection hk with hk; omega)); have HO12 := hid (HO11.out.kept hg12 (Or.inr (fun e => by have := (HO11.out.lt _ e).1; omega))); have HQ12 := hid (HQ11.out.kept hg12 (Or.inr (fun e => by have := (HQ11.out.lt _ e).1; have := HS67.out; omega))); have HP12 : Hid (PhS t c.cells w12) := hid (HP11.out.grown hg12 (fun e => by injection e with e; have := HN.out; omega)); clear hT12 hg12 HM11 HO11 HQ11 c18)
  | fail)
 simp only [Act.put]
 obtain ⟨M, hMe⟩ : ∃ M, nextMan i ns en k c.man n ps = M := ⟨_, rfl⟩
 have hlM : M.segs = c.man.segs ++ [n] := by rw [<- hMe]; rfl
 have hcM : M.cells A11 A7 c11 c7 = #[.int .i64 (i : Int), .int .i64 (ns : Int), .int .i64 (en : Int), .int .i64 (c.man.mark : Int), .int .i64 (k : Int), .slice A11 (c.man.segs.length + 1) c11, .slice A7 ps.length c7] := by
  rw [<- hMe]
  simp [ManS.cells, nextMan]
 have hSV : ∀ W, Below w12.heap.size w12 W -> Calls Tryz.prog 157 #[.pointer (some ⟨c.d, 0, none⟩), .agg (M.cells A11 A7 c11 c7)] W fun e w' => ∃ v, e = .returned v /\ ∃ u G', (u = 0 \/ u = 33) /\ v = .int .i64 u /\ P ps u G' w' /\ Fx CK G G' W w' /\ Fin G' w' := fun W hW => save_any W M (by rw [<- hMe]; exact HOK'.out ps HPS.out HPL.out) (by rw [<- hMe]; exact hi1) (tab_below HTB.out (HB12.out.trans (hW.mono HB12.out.size))) A11 A7 c11 c7 c.d (by rw [hlM]; exact (ints_own HO12.out).below hW) (by rw [<- hMe]; exact (prs_own HQ12.out).below hW) (fun v w' => ∃ u G', (u = 0 \/ u = 33) /\ v = .int .i64 u /\ P ps u G' w' /\ Fx CK G G' W w' /\ Fin G' w') (fun U A c' hb ho => by
  rw [<- hMe] at ho ⊢
  refine (HJ.out ps U A c' HPS.out HPL.out (HB12.out.trans ((hW.trans (hb.mono hW.size)).mono HB12.out.size)) (own_less ho (Nat.le_trans HB12.out.size hW.size))).mono ?_
  rintro e w' ⟨v, G', h0, rfl, h1, h2, h3⟩
  exact ⟨_, rfl, v, G', h0, rfl, h1, (Fx.below hb).trans h2, h3⟩)
 rw [hcM] at hSV
 have HSV := hid hSV
 have HME := hid hMe
 have kd := fun d' os => cell_regrown (show w12.cell? ⟨t, 0, none⟩ = some (.pointer (some ⟨c.d, 0, none⟩)) from (HP12.out.cell 0).trans rfl) d' os
 have kE := regrown_cells HM12.out 0 [.int .i64 (i : Int), .int .i64 (ns : Int), .int .i64 (en : Int), .int .i64 (c.man.mark : Int), .int .i64 (k : Int), .slice A11 (c.man.segs.length + 1) c11, .slice A7 ps.length c7] (by intro j v hj; rw [Nat.zero_add, <- hj]; simp)
 clear hSV hcM hlM hMe
 refine wp_quiet_tail 6 (by kernel_rfl) (by kernel_rfl) (by kernel_rfl) ?_
 simp only [List.take, List.drop]
 repeat (first | go_big_quiet_skip | (with_reducible refine wpQuiet_load_list (o := ⟨some 49, .load 67 (.tmp 5), _, _, _, _⟩) rfl 67 (.tmp 5) rfl ⟨w.heap.size, 0, none⟩ rfl _ kE _ Tryz.underlying67 rfl (by kernel_rfl) ?_; simp only [Act.put, List.setIfInBounds_toArray, List.set_cons_succ, List.set_cons_zero]) | (go_big_quiet_want; go_big_quiet_op; go_big_quiet_on))
 refine wpQuiet_nil ?_
 intro w13 hw'
 obtain ⟨⟨dq, osq⟩, hw''⟩ := hw'
 have HB123 : Hid (Below w12.heap.size w12 w13) := by rw [hw'']; exact hid (below_regrown w12 dq osq)
 clear hw'' kd kE
 go_wp2_with fail
 refine (HSV.out w13 HB123.out).mono ?_
 rintro e w14 ⟨_, rfl, v, G', hv01, rfl, hP, hFx, hFin⟩
 have HPP := hid hP
 have HFX := hid hFx
 have HFN := hid hFin
 have HB13 : Hid (Below w.heap.size w w13) := hid (HB12.out.trans (HB123.out.mono HB12.out.size))
 have HT14 : Hid (BlkR w14 G' t 110 c.cells (some (τ, .top))) := hid ((show BlkR w13 G t 110 c.cells (some (τ, .top)) from ⟨HH.out.below HB13.out HH.out.lt, HRT.out⟩).keep hFx ck_other)
 have HM14 := hid ((show BlkR w13 G w.heap.size 67 #[.int .i64 (i : Int), .int .i64 (ns : Int), .int .i64 (en : Int), .int .i64 (c.man.mark : Int), .int .i64 (k : Int), .slice A11 (c.man.segs.length + 1) c11, .slice A7 ps.length c7] none from ⟨HM12.out.below HB123.out HM12.out.lt, HF.out _ (Nat.le_refl _)⟩).keep hFx ck_other)
 have HFX0 : Hid (Fx CK G G' w w14) := hid ((Fx.below HB13.out).trans hFx)
 clear hP hFx hFin HSV
 rcases hv01 with hv | hv
 ·subst hv
  go_wp2_with (first
   | ((with_reducible refine at_op ⟨_, .load 67 (.tmp 5), _, _, _, _⟩ ?_); refine wpList_load_list rfl 67 (.tmp 5) rfl ⟨w.heap.size, 0, none⟩ rfl [.int .i64 (i : Int), .int .i64 (ns : Int), .int .i64 (en : Int), .int .i64 (c.man.mark : Int), .int .i64 (k : Int), .slice A11 (c.man.segs.length + 1) c11, .slice A7 ps.length c7] (fun j v hj => by rw [add_flat, HM14.out.1.cell, Nat.zero_add, <- hj]; simp) _ Tryz.underlying67 rfl (by kernel_rfl) ?_)
   | ((with_reducible refine at_op ⟨none, .store 67 (.tmp 57) (.tmp 55), _, _, _, _⟩ ?_); refine wpList_store_blk rfl 67 (.tmp 57) (.tmp 55) rfl t 4 rfl [.int .i64 (i : Int), .int .i64 (ns : Int), .int .i64 (en : Int), .int .i64 (c.man.mark : Int), .int .i64 (k : Int), .slice A11 (c.man.segs.length + 1) c11, .slice A7 ps.length c7] rfl (by simp [Value.oneCell']) 110 _ HT14.out.1 (by simp [Tc.cells]) (by kernel_rfl) ?_; intro w15 hT15 hg15 hs15; have HT15 := hid hT15; have HG15 := hid hg15; have HS15 := hid hs15; clear hT15 hg15 hs15)
   | fail)
  go_ret
  refine ⟨0, G', w14, ps, rfl, HPS.out, HPL.out, HPP.out, HFN.out, HFX0.out, fun h => absurd rfl h, fun _ => ⟨A11, c11, A7, c7, ?_, ?_, ?_, ?_, ?_, ?_, HS15.out⟩⟩
  ·have hl : (nextMan i ns en k c.man n ps).segs.length = c.man.segs.length + 1 := by simp [nextMan]
   have h15 := HT15.out
   have e9 : Tc.cells { c with man := nextMan i ns en k c.man n ps, sA := A11, sc := c11, pA := A7, pc := c7 } = putFrom c.cells 4 [.int .i64 (i : Int), .int .i64 (ns : Int), .int .i64 (en : Int), .int .i64 (c.man.mark : Int), .int .i64 (k : Int), .slice A11 (c.man.segs.length + 1) c11, .slice A7 ps.length c7] := by
    simp only [Tc.cells, hl]
    rfl
   rw [e9]
   exact h15
  ·exact (ints_own HO12.out).below (HB123.out) |> fun h => ints_keep (ints_keep h (cold_own (own_below HO12.out HB123.out) (fun j hj _ => HF.out j (by omega))) HFX.out ck_none) ((cold_own (own_below HO12.out HB123.out) (fun j hj _ => HF.out j (by omega))).keep HFX.out) (Fx.grown HG15.out HT14.out.2) (by rintro ⟨_, h⟩; cases h)
  ·exact ((cold_own (own_below HO12.out HB123.out) (fun j hj _ => HF.out j (by omega))).keep HFX.out).keep (Fx.grown HG15.out HT14.out.2)
  ·exact (prs_own HQ12.out).below (HB123.out) |> fun h => prs_keep (prs_keep h (cold_own (own_below HQ12.out HB123.out) (fun j hj _ => HF.out j (by have := HS67.out; omega))) HFX.out ck_none) ((cold_own (own_below HQ12.out HB123.out) (fun j hj _ => HF.out j (by have := HS67.out; omega))).keep HFX.out) (Fx.grown HG15.out HT14.out.2) (by rintro ⟨_, h⟩; cases h)
  ·exact ((cold_own (own_below HQ12.out HB123.out) (fun j hj _ => HF.out j (by have := HS67.out; omega))).keep HFX.out).keep (Fx.grown HG15.out HT14.out.2)
  ·exact Fx.grown HG15.out HT14.out.2
 ·subst hv
  go_wp2_with fail
  go_ret
  exact ⟨33, G', w14, ps, rfl, HPS.out, HPL.out, HPP.out, HFN.out, HFX0.out, fun _ => rfl, fun h => by cases h⟩
end Go.Proofs.YtendlmdmbkcdnaaGreatDoor.tp
