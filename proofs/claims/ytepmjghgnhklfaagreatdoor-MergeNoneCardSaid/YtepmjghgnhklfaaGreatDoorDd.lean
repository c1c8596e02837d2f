/-
  Code and calls.
  Conditions: none.
-/
import Derived.Test.YtepmjghgnhklfaaGreatDoorDc
import Derived.RangeFuncLeaves
import Derived.Scope
namespace Go.Proofs.YtepmjghgnhklfaaGreatDoor.det
open Go

inductive CDef where
  | fn (fn : Fn) (cap args : List Value)
  | mark (r : Nat)
structure CS where
  T : Tr Value
  M : Mem
  df : List CDef
inductive Ex where
  | normal
  | exit (id : Nat)
  | ret
inductive Tg where
  | enter (f : FuncId) (args : List Value)
  | round (l : Nat) (args : List Value)
structure CFn where
  cx : CX
  body : Code
  res : List ResultVar
abbrev Sum := List Value → Mem → Option (Value × Mem)
structure Env where
  D : Dat
  G : Nat
  fns : Tr CFn
  sums : Tr Sum
abbrev RC := CX → Option Nat → Code → CS → Option (Ex × CS)
abbrev RF := FuncId → List Value → Mem → Option (Value × Mem)

noncomputable def pget {α : Type} (l : List (Nat × α)) (n : Nat) : Option α := List.rec none (fun p _ ih => bif Nat.beq p.1 n then some p.2 else ih) l
/-- which function a call enters -/
noncomputable def eInvoke (D : Dat) (fn : Fn) (cap args : List Value) : Option Tg :=
  match fn with
  | .func f => some (.enter f (args ++ cap))
  | .method name =>
    (match args with
    | .iface t v :: r =>
      (match eMeth D t name, D.un t with
      | some (f, p), some (.pointer _) => bif p then some (.enter f (v :: r)) else none
      | some (f, p), some _ => bif p then none else some (.enter f (v :: r))
      | _, _ => none)
    | _ => none)
  | .yield l => some (.round l args)
  | _ => none
noncomputable def eCallee (D : Dat) (v : Value) (args : List Value) : Option Tg :=
  match v with
  | .func fn first cap => eInvoke D fn cap.toList (first.toList ++ args)
  | _ => none
/-- the call that a deferred or an ordinary call is -/
noncomputable def eResolve (D : Dat) (ev : Operand → Value) (c : Call) : Option CDef :=
  match c.callee with
  | .builtin _ => none
  | .value f => (match ev f with | .func fn first cap => some (.fn fn cap.toList (first.toList ++ c.args.toList.map ev)) | _ => none)
  | .invoke recv name => some (.fn (.method name) [] (ev recv :: c.args.toList.map ev))

section
variable (E : Env) (rc : RC) (rf : RF)
noncomputable def callF (f : FuncId) (args : List Value) (M : Mem) : Option (Value × Mem) :=
  match E.sums.get f with
  | some S => (match S args M with | some r => some r | none => rf f args M)
  | none => rf f args M
noncomputable def putAll (nt : Nat) (ps : List Tmp) : List Value → Tr Value → Tr Value :=
  List.rec (fun _ T => T) (fun p _ ih args T => match args with | v :: r => ih r (tput nt T p v) | [] => T) ps
noncomputable def argT (nt : Nat) (args : List Value) : Nat → Tr Value → Tr Value :=
  List.rec (fun _ T => T) (fun v _ ih i T => ih (Nat.succ i) (tput nt T i v)) args

/-! ### What must hold of code -/
noncomputable def fitOp (nt G : Nat) (o : Oper) : Bool := o.op.operands.toList.all (fitO G nt) && (match o.dst with | some d => Nat.blt d nt | none => true)
noncomputable def fitC (G : Nat) (cx : CX) : Code → Bool
  | .skip | .label _ | .exit _ | .ret => true
  | .goto _ | .refuse _ => true
  | .region _ ops false => ops.toList.all (fitOp cx.nt G)
  | .region id ops true => chkOps ops cx.nt G && (match pget cx.plans id with | some pl => chkPl ops [] pl | none => false)
  | .seq a b => fitC G cx a && fitC G cx b
  | .cond c a b => fitO G cx.nt c && fitC G cx a && fitC G cx b
  | .block _ b => fitC G cx b
  | .loop b => fitC G cx b
  | .scope b => fitC G cx b
  | .rangeFunc g _ a b => fitO G cx.nt g && fitC G cx a && fitC G cx b

/-! ### What is run -/
noncomputable def upLoop (M : Mem) (l : Nat) (r : CLoop) (st : LoopState) (pd : Option Code) : Mem := M.upd l (.loop ⟨st, pd, r.cx, r.tmps, r.params, r.assign, r.body, r.defers⟩)
def jumpOf : Ex → Option Code
  | .normal => none
  | .exit id => some (.exit id)
  | .ret => some .ret
noncomputable def roundS (l : Nat) (args : List Value) (M : Mem) : Option (Value × Mem) :=
  match M.get l with
  | some (.loop r) =>
    bif Nat.beq args.length r.params.toList.length && Nat.ble r.cx.nt lim && fitC E.G r.cx r.assign && fitC E.G r.cx r.body then
      (match rc r.cx (some l) r.assign ⟨putAll r.cx.nt r.params.toList args r.tmps, M, []⟩ with
      | some (.normal, s1) =>
        (match s1.M.get l with
        | some (.loop r1) =>
          (match r1.state with
          | .ready =>
            (match rc r.cx (some l) r.body ⟨s1.T, upLoop s1.M l r1 .busy r1.pending, s1.df⟩ with
            | some (ex, s2) =>
              (match s2.M.get l with
              | some (.loop r2) =>
                (match ex with
                | .normal => some (.bool true, upLoop s2.M l r2 .ready none)
                | .exit id => some (.bool false, upLoop s2.M l r2 .done (some (.exit id)))
                | .ret => some (.bool false, upLoop s2.M l r2 .done (some .ret)))
              | _ => none)
            | none => none)
          | _ => none)
        | _ => none)
      | _ => none)
    else none
  | _ => none
noncomputable def goTg (t : Option Tg) (M : Mem) : Option (Value × Mem) :=
  match t with
  | some (.enter f args) => callF E rf f args M
  | some (.round l args) => roundS E rc l args M
  | none => none
noncomputable def oneS (ev : Operand → Value) (o : Oper) (M : Mem) : Option (Value × Mem) :=
  match o.op with
  | .call c =>
    (match c.callee with
    | .builtin _ => opS E.D ev (.call c) M
    | .value f => goTg E rc rf (eCallee E.D (ev f) (c.args.toList.map ev)) M
    | .invoke recv name => goTg E rc rf (eInvoke E.D (.method name) [] (ev recv :: c.args.toList.map ev)) M)
  | op => opS E.D ev op M
/-- operations one after the other -/
noncomputable def seqOps (nt : Nat) (ro : Option Nat) (l : List Oper) (ops : List Oper) : CS → Option CS :=
  List.rec (fun s => some s) (fun o _ ih s =>
    match wantT l s.T o with
    | some true =>
      (match o.op with
      | .defer c =>
        (match ro, eResolve E.D (evO s.T) c with
        | none, some d => ih ⟨putT nt o.dst undef s.T, s.M, d :: s.df⟩
        | _, _ => none)
      | _ =>
        (match oneS E rc rf (evO s.T) o s.M with
        | some (v, M') => ih ⟨putT nt o.dst v s.T, M', s.df⟩
        | none => none))
    | some false => ih ⟨putT nt o.dst undef s.T, s.M, s.df⟩
    | none => none) ops
noncomputable def endLoop (ro : Option Nat) (l : Nat) (T : Tr Value) (df : List CDef) (M : Mem) : Option (Ex × CS) :=
  match M.get l with
  | some (.loop r) =>
    (match r.state with
    | .busy => none
    | _ =>
      (match r.pending with
      | none => some (.normal, ⟨T, upLoop M l r .exhausted r.pending, df⟩)
      | some (.exit id) => some (.exit id, ⟨T, upLoop M l r .exhausted r.pending, df⟩)
      | some .ret => some (.ret, ⟨T, upLoop M l r .exhausted r.pending, df⟩)
      | _ => none))
  | _ => none
/-- where the rounds' deferred calls would be gathered -/
noncomputable def gather (ro : Option Nat) (M : Mem) : Option (Nat × List CDef × Mem) :=
  match ro with
  | some l => (match M.get l with | some (.loop r) => some (r.defers, [], M) | _ => none)
  | none => bif Nat.blt M.next M.top then some (M.next, [.mark M.next], M.alloc (.deferred (some ()))) else none
noncomputable def rangeS (cx : CX) (ro : Option Nat) (g : Operand) (ps : Array Tmp) (asg body : Code) (s : CS) : Option (Ex × CS) :=
  match gather ro s.M with
  | some (d, mk, M1) =>
    bif Nat.blt M1.next M1.top then
      (match eCallee E.D (evO s.T g) [.func (.yield M1.next) #[] #[]] with
      | some (.enter f args) =>
        (match rf f args (M1.alloc (.loop ⟨.ready, none, cx, s.T, ps, asg, body, d⟩)) with
        | some (_, M3) => endLoop ro M1.next s.T (mk ++ s.df) M3
        | none => none)
      | _ => none)
    else none
  | none => none
noncomputable def codeS (cx : CX) (ro : Option Nat) (c : Code) (s : CS) : Option (Ex × CS) :=
  match c with
  | .skip => some (.normal, s)
  | .label _ => some (.normal, s)
  | .exit id => some (.exit id, s)
  | .ret => some (.ret, s)
  | .region _ ops false => (match seqOps E rc rf cx.nt ro ops.toList ops.toList s with | some s' => some (.normal, s') | none => none)
  | .region id ops true =>
    (match pget cx.plans id with
    | some pl =>
      (match plan E.D cx.nt (oneS E rc rf) ops.toList pl ⟨s.T, s.M, [], []⟩ with
      | some r => some (.normal, ⟨r.T, ⟨absA r.L r.H.t, r.H.next, r.H.top⟩, s.df⟩)
      | none => none)
    | none => none)
  | .seq a b =>
    (match rc cx ro a s with
    | some (.normal, s1) => rc cx ro b s1
    | some (.exit id, s1) => some (.exit id, s1)
    | some (.ret, s1) => some (.ret, s1)
    | none => none)
  | .cond c a b => (match evO s.T c with | .bool t => rc cx ro (bif t then a else b) s | _ => none)
  | .block id b =>
    (match rc cx ro b s with
    | some (.normal, s1) => some (.normal, s1)
    | some (.exit j, s1) => bif Nat.beq j id then some (.normal, s1) else some (.exit j, s1)
    | some (.ret, s1) => some (.ret, s1)
    | none => none)
  | .loop b =>
    (match rc cx ro b s with
    | some (.normal, s1) => rc cx ro (.loop b) s1
    | some (.exit id, s1) => some (.exit id, s1)
    | some (.ret, s1) => some (.ret, s1)
    | none => none)
  | .scope b => (match ro with | none => rc cx ro b s | some _ => none)
  | .rangeFunc g ps asg body => rangeS E rf cx ro g ps asg body s
  | .goto _ => none
  | .refuse _ => none
noncomputable def eRes (T : Tr Value) (M : Mem) : ResultVar → Option Value
  | .tmp t => some (tget T t)
  | .cell a t => eLoadAt E.D t (tget T a) M
noncomputable def eRess (T : Tr Value) (M : Mem) (rs : List ResultVar) : Option (List Value) := List.rec (some []) (fun r _ ih => match eRes E T M r, ih with | some v, some vs => some (v :: vs) | _, _ => none) rs
noncomputable def eResult (T : Tr Value) (M : Mem) (rs : List ResultVar) : Option Value :=
  match eRess E T M rs with
  | some [v] => some v
  | some vs => some (.tuple vs.toArray)
  | none => none
noncomputable def fitR (nt : Nat) : ResultVar → Bool
  | .tmp t => Nat.blt t nt
  | .cell a _ => Nat.blt a nt
/-- a body, from the entry to its end -/
noncomputable def bodyS (f : FuncId) (args : List Value) (M : Mem) : Option (CFn × CS) :=
  match E.fns.get f with
  | some cf =>
    bif Nat.ble args.length cf.cx.nt then
      (match rc cf.cx none cf.body ⟨argT cf.cx.nt args 0 .nil, M, []⟩ with
      | some (.normal, s) => some (cf, s)
      | some (.ret, s) => some (cf, s)
      | _ => none)
    else none
  | none => none
/-- a deferred call -/
noncomputable def dcall (f : FuncId) (args : List Value) (M : Mem) : Option Mem :=
  match bodyS E rc f args M with
  | some (cf, s) => (match s.df, eResult E s.T s.M cf.res with | [], some _ => some s.M | _, _ => none)
  | none => none
noncomputable def leave (ds : List CDef) : Mem → Option Mem :=
  List.rec (fun M => some M) (fun d _ ih M =>
    match d with
    | .mark r => (match M.get r with | some (.deferred (some ())) => ih (M.upd r (.deferred none)) | _ => none)
    | .fn fn cap args =>
      (match eInvoke E.D fn cap args with
      | some (.enter f as) => (match dcall E rc f as M with | some M' => ih M' | none => none)
      | _ => none)) ds
noncomputable def callS (f : FuncId) (args : List Value) (M : Mem) : Option (Value × Mem) :=
  match bodyS E rc f args M with
  | some (cf, s) =>
    (match leave E rc s.df s.M with
    | some M' => (match eResult E s.T M' cf.res with | some v => some (v, M') | none => none)
    | none => none)
  | none => none
end
/-- the run, with so much fuel -/
noncomputable def run (E : Env) : Nat → RC × RF :=
  Nat.rec (fun _ _ _ _ => none, fun _ _ _ => none) (fun _ ih => (codeS E ih.1 ih.2, callS E ih.1))
end Go.Proofs.YtepmjghgnhklfaaGreatDoor.det
namespace Go.Proofs.YtepmjghgnhklfaaGreatDoor.det
open Go

section
variable {E : Env} {P : Program} {ρ ρ' : Ren} {A A' : Nat → Prop} {M M' : Mem} {w : World}

inductive CdR (ρ : Ren) (A : Nat → Prop) : CDef → Deferred → Prop
  | fn (fn fn' : Fn) (cap args : List Value) (cap' args' : Array Value) (hf : Rfn ρ A fn fn') (hc : AsR ρ A cap cap') (ha : AsR ρ A args args') : CdR ρ A (.fn fn cap args) { target := .fn fn' cap', args := args' }
  | mark (r : Nat) (h : A r) : CdR ρ A (.mark r) { target := .collected (ρ r).1, args := #[] }
inductive DfR (ρ : Ren) (A : Nat → Prop) : List CDef → List Deferred → Prop
  | nil : DfR ρ A [] []
  | cons (d d' ds ds') (h : CdR ρ A d d') (hs : DfR ρ A ds ds') : DfR ρ A (d :: ds) (d' :: ds')
theorem CdR.up {d : CDef} {d' : Deferred} (h : CdR ρ A d d') (hk : ∀ n, A n → A' n) (hρ : ∀ n, A n → ρ' n = ρ n) : CdR ρ' A' d d' := by
  cases h with
  | fn fn fn' cap args cap' args' hf hc ha => exact .fn _ _ _ _ _ _ (hf.up hk hρ) (hc.up hk hρ) (ha.up hk hρ)
  | mark r h => rw [← hρ r h]; exact .mark r (hk r h)
theorem DfR.up {ds : List CDef} {ds' : List Deferred} (h : DfR ρ A ds ds') (hk : ∀ n, A n → A' n) (hρ : ∀ n, A n → ρ' n = ρ n) : DfR ρ' A' ds ds' := by
  induction h with
  | nil => exact .nil
  | cons d d' ds ds' h hs ih => exact .cons _ _ _ _ (h.up hk hρ) ih
theorem AsR.nil : AsR ρ A [] #[] := ⟨rfl, fun j y y' h1 _ => by simp at h1⟩
theorem AsR.append {as bs : List Value} {as' bs' : Array Value} (h : AsR ρ A as as') (h2 : AsR ρ A bs bs') : AsR ρ A (as ++ bs) (as' ++ bs') := by
  have hl := h.1
  refine ⟨by rw [List.length_append, Array.size_append, h.1, h2.1], fun j y y' h3 h4 => ?_⟩
  rcases Nat.lt_or_ge j as.length with hj | hj
  · rw [List.getElem?_append_left hj] at h3
    rw [Array.getElem?_append_left (by omega)] at h4
    exact h.2 j y y' h3 h4
  · rw [List.getElem?_append_right hj] at h3
    rw [Array.getElem?_append_right (by omega)] at h4
    rw [← hl] at h4
    exact h2.2 _ y y' h3 h4
theorem AsR.single {v v' : Value} (h : Rv ρ A v v') : AsR ρ A [v] #[v'] := by
  refine ⟨rfl, fun j y y' h1 h2 => ?_⟩
  cases j with
  | zero =>
    simp at h1 h2
    subst h1 h2
    exact h
  | succ j => simp at h1
theorem AsR.head {v : Value} {r : List Value} {as' : Array Value} (h : AsR ρ A (v :: r) as') : ∃ v', as'[0]? = some v' ∧ Rv ρ A v v' ∧ AsR ρ A r (as'.extract 1 as'.size) := by
  have hl := h.1
  simp only [List.length_cons] at hl
  have h0 : as'[0]? = some (as'[0]'(by omega)) := Array.getElem?_eq_getElem (by omega)
  refine ⟨_, h0, h.2 0 v _ rfl h0, by simp; omega, fun j y y' h1 h2 => h.2 (j + 1) y y' (by simpa using h1) ?_⟩
  rw [Array.getElem?_extract] at h2
  split at h2
  · rw [Nat.add_comm]; exact h2
  · cases h2
theorem AsR.of_arr {xs xs' : Array Value} (sx : xs.size = xs'.size) (hx : ∀ i, i < xs.size → Rv ρ A (xs.getD i undef) (xs'.getD i undef)) : AsR ρ A xs.toList xs' := by
  refine ⟨by simpa using sx, fun j y y' h1 h2 => ?_⟩
  rw [Array.getElem?_toList] at h1
  have hj : j < xs.size := by
    rcases Nat.lt_or_ge j xs.size with h | h
    · exact h
    · rw [Array.getElem?_eq_none h] at h1; cases h1
  have := hx j hj
  rw [Array.getD_eq_getD_getElem?, Array.getD_eq_getD_getElem?, h1, h2] at this
  exact this

/-- what a call of a named function comes to -/
def Goes (P : Program) (f : FuncId) (args' : Array Value) (w : World) (R : Value → World → Prop) : Prop :=
  ((callFunc f args').run P w = .ok (.enter f args') w ∧ CallsIn Fence.wide 0 P f args' w fun | .returned v, w' => R v w' | _, _ => False) ∨
  ∃ v w', (callFunc f args').run P w = .ok (.value v) w' ∧ R v w'
def RetV (P : Program) (ρ : Ren) (A : Nat → Prop) (M : Mem) (w : World) (v : Value) (M' : Mem) (v' : Value) (w' : World) : Prop := ∃ ρ' A', Rv ρ' A' v v' ∧ St P ρ A M w ρ' A' M' w'
structure FnOk (E : Env) (P : Program) (f : FuncId) (cf : CFn) : Prop where
  fn : ∃ fn, P.funcs[f]? = some fn ∧ fn.body = some cf.body ∧ (fn.name == "runtime.NumGoroutine") = false ∧ fn.ntmps = cf.cx.nt ∧ fn.results.toList = cf.res
  nt : cf.cx.nt ≤ lim
  fit : fitC E.G cf.cx cf.body = true
  res : cf.res.all (fitR cf.cx.nt) = true
structure EnvOk (E : Env) (P : Program) : Prop where
  base : Base E.D P
  mixed : P.follows .mixedOrders = true
  fns : ∀ f cf, E.fns.get f = some cf → FnOk E P f cf
  sums : ∀ f S, E.sums.get f = some S → ∀ (args : List Value) (M : Mem) (v : Value) (M' : Mem), S args M = some (v, M') → ∀ (ρ : Ren) (A : Nat → Prop) (args' : Array Value) (w : World), Rm P ρ A M w → GOK ρ A E.G → AsR ρ A args args' → Goes P f args' w (RetV P ρ A M w v M')
/-- the calls of functions with bodies -/
def SoundF (E : Env) (P : Program) (rf : RF) : Prop :=
  ∀ (f : FuncId) (args : List Value) (M : Mem) (v : Value) (M' : Mem), rf f args M = some (v, M') → ∀ (ρ : Ren) (A : Nat → Prop) (args' : Array Value) (w : World), Rm P ρ A M w → GOK ρ A E.G → AsR ρ A args args' →
    (callFunc f args').run P w = .ok (.enter f args') w ∧ CallsIn Fence.wide 0 P f args' w fun | .returned v', w' => RetV P ρ A M w v M' v' w' | _, _ => False
theorem callF_ok (H : EnvOk E P) {rf : RF} (F : SoundF E P rf) {f : FuncId} {args : List Value} {v : Value} (h : callF E rf f args M = some (v, M')) {args' : Array Value} (hM : Rm P ρ A M w) (hG : GOK ρ A E.G) (ha : AsR ρ A args args') : Goes P f args' w (RetV P ρ A M w v M') := by
  unfold callF at h
  split at h
  · rename_i S hS
    split at h
    · rename_i r hr
      rw [h] at hr
      exact H.sums f S hS args M v M' hr ρ A args' w hM hG ha
    · exact Or.inl (F f args M v M' h ρ A args' w hM hG ha)
  · exact Or.inl (F f args M v M' h ρ A args' w hM hG ha)
theorem FnOk.enters {f : FuncId} {cf : CFn} (h : FnOk E P f cf) (args' : Array Value) (w : World) : (callFunc f args').run P w = .ok (.enter f args') w := by
  obtain ⟨fn, h1, h2, h3, _⟩ := h.fn
  simp only [callFunc, Sem.run_bind, run_program, Result.andThen_ok, h1, h3, h2, Option.isNone_some, Bool.false_eq_true, if_false, Sem.run_pure]

/-! ### Which function -/
theorem r_method (B : Base E.D P) {t : TypeId} {name : String} {f : FuncId} {b : Bool} {d : TypeDesc} (v : Value) (h : eMeth E.D t name = some (f, b)) (hu : E.D.un t = some d) (hb : (b = true ∧ ∃ e, d = .pointer e) ∨ (b = false ∧ ∀ e, d ≠ .pointer e)) (w : World) : (method (P.types.size + Made.depth) t v name).run P w = .ok (f, v) w := by
  obtain ⟨i, m, hi, hm, hp, hf⟩ := eMeth_find h
  obtain ⟨n, hn⟩ := B.M.pos
  rw [hn]
  simp only [method, Sem.run_bind, r_ti B.ok hi, Result.andThen_ok, hm, hp, follow, Sem.run_pure, hf, receiverAt, r_un B.ok hu]
  rcases hb with ⟨rfl, e, rfl⟩ | ⟨rfl, hne⟩
  · simp only [Place.get, Sem.run_pure, Result.andThen_ok]
  · cases d <;> first | exact absurd rfl (hne _) | simp only [Place.get, Sem.run_pure, Result.andThen_ok]
theorem eInvoke_ok (B : Base E.D P) {fn fn' : Fn} {cap args : List Value} {cap' args' : Array Value} {t : Tg} (h : eInvoke E.D fn cap args = some t) (hf : Rfn ρ A fn fn') (hc : AsR ρ A cap cap') (ha : AsR ρ A args args') :
    (∃ f as as', t = .enter f as ∧ (∀ w, (invoke (.fn fn' cap') args').run P w = (callFunc f as').run P w) ∧ AsR ρ A as as') ∨ (∃ l, t = .round l args ∧ A l ∧ ∀ w, (invoke (.fn fn' cap') args').run P w = (Instr.yield (ρ l).1 args').run P w) := by
  unfold eInvoke at h
  split at h
  · rename_i f
    injection h with h
    subst h
    cases hf
    exact Or.inl ⟨f, _, _, rfl, fun w => rfl, ha.append hc⟩
  · rename_i name
    cases hf
    split at h
    · rename_i t0 v r
      obtain ⟨x, h0, hx, hr⟩ := ha.head
      cases hx with
      | iface _ _ v' hv =>
        have fin : ∀ f d b, eMeth E.D t0 name = some (f, b) → E.D.un t0 = some d → ((b = true ∧ ∃ e, d = .pointer e) ∨ (b = false ∧ ∀ e, d ≠ .pointer e)) → some (Tg.enter f (v :: r)) = some t → (∃ f as as', t = .enter f as ∧ (∀ w, (invoke (.fn (.method name) cap') args').run P w = (callFunc f as').run P w) ∧ AsR ρ A as as') := by
          intro f d b h1 h2 h3 h4
          injection h4 with h4
          refine ⟨f, v :: r, #[v'] ++ args'.extract 1 args'.size, h4.symm, fun w => ?_, (AsR.single hv).append hr⟩
          simp only [invoke, h0, Sem.run_bind, Sem.run_pure, Result.andThen_ok, callMethod, run_program, r_method B v' h1 h2 h3 w]
        split at h
        · rename_i f p e hm hu
          cases p
          · cases h
          · exact Or.inl (fin f _ _ hm hu (Or.inl ⟨rfl, e, rfl⟩) h)
        · rename_i f p d hne hm hu
          cases p
          · refine Or.inl (fin f _ _ hm hu (Or.inr ⟨rfl, fun e he => ?_⟩) h)
            subst he
            exact hne _ rfl
          · cases h
        · cases h
    · cases h
  · rename_i l
    injection h with h
    subst h
    cases hf with
    | yield _ hl => exact Or.inr ⟨l, rfl, hl, fun w => rfl⟩
  · cases h
end
end Go.Proofs.YtepmjghgnhklfaaGreatDoor.det
namespace Go.Proofs.YtepmjghgnhklfaaGreatDoor.det
open Go

def exOf : Ex → Exit
  | .normal => .normal
  | .exit id => .exit id
  | .ret => .ret
def RoOk (ρ : Ren) (A : Nat → Prop) (ro : Option Nat) (F : Fence) : Prop :=
  match ro with
  | none => F.round = none
  | some l => A l ∧ F.round = some (ρ l).1
/-- an end -/
def Done (P : Program) (ρ : Ren) (A : Nat → Prop) (M : Mem) (w : World) (nt : Nat) (ex : Ex) (s' : CS) : Exit → Act → World → Prop := fun e a' w' =>
  e = exOf ex ∧ ∃ ρ' A', St P ρ A M w ρ' A' s'.M w' ∧ Rt ρ' A' nt s'.T a'.tmps ∧ DfR ρ' A' s'.df a'.defers
/-- the walks of code -/
def SoundC (E : Env) (P : Program) (rc : RC) : Prop :=
  ∀ (cx : CX) (ro : Option Nat) (c : Code) (s : CS) (ex : Ex) (s' : CS), rc cx ro c s = some (ex, s') → fitC E.G cx c = true → cx.nt ≤ lim → ∀ (ρ : Ren) (A : Nat → Prop) (a : Act) (w : World) (F : Fence), FenceOk P F → RoOk ρ A ro F → GOK ρ A E.G →
    Rm P ρ A s.M w → Rt ρ A cx.nt s.T a.tmps → DfR ρ A s.df a.defers → c.wpIn F 0 P (Done P ρ A s.M w cx.nt ex s') a w

section
variable {E : Env} {P : Program} {rc : RC} {rf : RF} {ρ ρ' : Ren} {A A' : Nat → Prop} {M M' : Mem} {w : World}
theorem RoOk.up {ro : Option Nat} {F : Fence} (h : RoOk ρ A ro F) (hk : ∀ n, A n → A' n) (hρ : ∀ n, A n → ρ' n = ρ n) : RoOk ρ' A' ro F := by
  cases ro with
  | none => exact h
  | some l => exact ⟨hk l h.1, by rw [hρ l h.1]; exact h.2⟩
theorem Done.trans {ρ1 : Ren} {A1 : Nat → Prop} {M1 : Mem} {w1 : World} {nt : Nat} {ex : Ex} {s' : CS} {e : Exit} {a' : Act} {w' : World} (h : St P ρ A M w ρ1 A1 M1 w1) (hd : Done P ρ1 A1 M1 w1 nt ex s' e a' w') : Done P ρ A M w nt ex s' e a' w' := by
  obtain ⟨h1, ρ', A', h2, h3, h4⟩ := hd
  exact ⟨h1, ρ', A', h.trans h2, h3, h4⟩

/-! ### Rounds -/
theorem loop_of (hM : Rm P ρ A M w) {l : Nat} {r : CLoop} (h : M.get l = some (.loop r)) : ∃ fn tmps, w.heap[(ρ l).1]? = some (.loop ⟨r.state, r.pending, fn, tmps, r.params, r.assign, r.body, (ρ r.defers).1⟩) ∧ Rt ρ A r.cx.nt r.tmps tmps ∧ A r.defers := by
  obtain ⟨o', h1, h2, _⟩ := hM.obj l _ h
  cases h2 with
  | loop st pd fn cx T tmps ps asg bd df ht hd => exact ⟨fn, tmps, h1, ht, hd⟩
theorem r_getLoop {l : Nat} {r : Loop} (h : w.heap[l]? = some (.loop r)) : (Instr.getLoop l).run P w = .ok r w := by
  simp [Instr.getLoop, Sem.run_bind, getObj, Sem.run, h, Result.andThen]
theorem r_setLoop {l : Nat} {r : Loop} (o : Obj) (h : w.heap[l]? = some (.loop r)) : (setObj l o).run P w = .ok () { w with heap := w.heap.setIfInBounds l o } := by
  simp [setObj, Sem.run, h]
/-- a loop's record goes on -/
theorem upLoop_st (hM : Rm P ρ A M w) {l : Nat} {r : CLoop} (h : M.get l = some (.loop r)) (st : LoopState) (pd : Option Code) {fn : FuncId} {tmps : Array Value} (ht : Rt ρ A r.cx.nt r.tmps tmps) (hd : A r.defers) :
    St P ρ A M w ρ A (upLoop M l r st pd) { w with heap := w.heap.setIfInBounds (ρ l).1 (.loop ⟨st, pd, fn, tmps, r.params, r.assign, r.body, (ρ r.defers).1⟩) } :=
  St.upd hM h (.loop st pd fn r.cx r.tmps tmps r.params r.assign r.body r.defers ht hd) trivial
theorem putAll_ok {nt : Nat} (hn : nt ≤ lim) : ∀ (ps : List Tmp) (args : List Value) (args' : List Value) (T : Tr Value) (t' : Array Value), args.length = args'.length → (∀ (j : Nat) (y y' : Value), args[j]? = some y → args'[j]? = some y' → Rv ρ A y y') → Rt ρ A nt T t' →
    Rt ρ A nt (putAll nt ps args T) ((ps.zip args').foldl (fun tmps (x : Tmp × Value) => tmps.setIfInBounds x.1 x.2) t')
  | [], args, args', T, t', _, _, hT => by simpa [putAll] using hT
  | p :: ps, [], [], T, t', _, _, hT => by simpa [putAll] using hT
  | p :: ps, [], _ :: _, _, _, h, _, _ => by simp at h
  | p :: ps, _ :: _, [], _, _, h, _, _ => by simp at h
  | p :: ps, v :: r, v' :: r', T, t', h, hv, hT => by
    have e : putAll nt (p :: ps) (v :: r) T = putAll nt ps r (tput nt T p v) := rfl
    rw [e, List.zip_cons_cons, List.foldl_cons]
    exact putAll_ok hn ps r r' _ _ (by simpa using h) (fun j y y' h1 h2 => hv (j + 1) y y' h1 h2) (hT.put hn p (hv 0 v v' rfl rfl))
theorem roundS_ok (C : SoundC E P rc) {l : Nat} {args : List Value} {args' : Array Value} {v : Value} (h : roundS E rc l args M = some (v, M')) (hM : Rm P ρ A M w) (hG : GOK ρ A E.G) (hl : A l) (ha : AsR ρ A args args') :
    ∃ f tmps asg body, (Instr.yield (ρ l).1 args').run P w = .ok (.round (ρ l).1 f tmps asg body) w ∧ RoundIn Fence.wide 0 P (ρ l).1 f tmps asg body w (fun | .returned v', w' => RetV P ρ A M w v M' v' w' | _, _ => False) := by
  unfold roundS at h
  split at h
  · rename_i r hr
    obtain ⟨fn, tmps, hw, ht, hd⟩ := loop_of hM hr
    cases hb : (Nat.beq args.length r.params.toList.length && Nat.ble r.cx.nt lim && fitC E.G r.cx r.assign && fitC E.G r.cx r.body) <;> rw [hb] at h
    · cases h
    · simp only [cond_true] at h
      rw [Bool.and_eq_true, Bool.and_eq_true, Bool.and_eq_true, Nat.beq_eq, Nat.ble_eq] at hb
      obtain ⟨⟨⟨b1, b2⟩, b3⟩, b4⟩ := hb
      split at h
      · rename_i s1 hs1
        split at h
        · rename_i r1 hr1
          split at h
          · rename_i hrd
            split at h
            · rename_i ex s2 hs2
              have hsz : args'.size = r.params.size := by rw [← ha.1, b1, Array.length_toList]
              let tmps' := (r.params.zip args').foldl (fun tmps (x : Tmp × Value) => tmps.setIfInBounds x.1 x.2) tmps
              refine ⟨fn, tmps', r.assign, r.body, ?_, ?_⟩
              · simp only [Instr.yield, Sem.run_bind, r_getLoop hw, Result.andThen_ok, hsz, ne_eq, not_true_eq_false, if_false, Sem.run_pure]
                rfl
              · have hT0 : Rt ρ A r.cx.nt (putAll r.cx.nt r.params.toList args r.tmps) tmps' := by
                  have := putAll_ok b2 r.params.toList args args'.toList r.tmps tmps (by rw [ha.1, Array.length_toList]) (fun j y y' h1 h2 => ha.2 j y y' h1 (by rw [Array.getElem?_toList] at h2; exact h2)) ht
                  have e : tmps' = (r.params.toList.zip args'.toList).foldl (fun tmps (x : Tmp × Value) => tmps.setIfInBounds x.1 x.2) tmps := by
                    show (r.params.zip args').foldl _ _ = _
                    rw [← Array.foldl_toList, Array.toList_zip]
                  rw [e]
                  exact this
                refine roundIn_of_wpIn (F := Fence.wide) trivial ?_
                refine wpIn_mono (C r.cx (some l) r.assign _ .normal s1 hs1 b3 b2 ρ A { tmps := tmps', defers := [] } w _ (FenceOk.round _) ⟨hl, rfl⟩ hG hM hT0 .nil) (fun e a1 w1 hd1 => ?_)
                obtain ⟨rfl, ρ1, A1, hS1, hT1, hD1⟩ := hd1
                obtain ⟨fn1, tmps1, hw1, ht1, hdf1⟩ := loop_of hS1.mem hr1
                have hag := hS1.agree l hl
                have hst1 := upLoop_st hS1.mem hr1 (fn := fn1) .busy r1.pending ht1 hdf1
                refine ⟨{ w1 with heap := w1.heap.setIfInBounds (ρ1 l).1 (.loop ⟨.busy, r1.pending, fn1, tmps1, r1.params, r1.assign, r1.body, (ρ1 r1.defers).1⟩) }, ?_, ?_⟩
                · rw [← hag]
                  simp only [Instr.beginRound, Sem.run_bind, r_getLoop hw1, Result.andThen_ok, r_setLoop _ hw1]
                  rw [hrd]
                  simp only [Sem.run_pure]
                · have hS2 := hS1.trans hst1
                  rw [← hag]
                  refine wpIn_mono (C r.cx (some l) r.body _ ex s2 hs2 b4 b2 ρ1 A1 a1 _ _ (FenceOk.round _) ⟨hS1.up l hl, rfl⟩ (hS1.gok hG) hst1.mem hT1 hD1) (fun e a2 w2 hd2 => ?_)
                  obtain ⟨rfl, ρ2, A2, hS3, hT2, hD2⟩ := hd2
                  have hS4 := hS2.trans hS3
                  have hag2 : (ρ2 l).1 = (ρ1 l).1 := by rw [hS3.agree l (hS1.up l hl)]
                  split at h
                  · rename_i r2 hr2
                    obtain ⟨fn2, tmps2, hw2, ht2, hdf2⟩ := loop_of hS4.mem hr2
                    have fin : ∀ (st : LoopState) (jump : Option Code) (b : Bool), some (Value.bool b, upLoop s2.M l r2 st jump) = some (v, M') → (b = jump.isNone) → (st = if jump.isNone then .ready else .done) →
                        ∃ v' w', (Instr.endRound (ρ1 l).1 jump).run P w2 = .ok v' w' ∧ RetV P ρ A M w v M' v' w' := by
                      intro st jump b h1 h2 h3
                      injection h1 with h1
                      injection h1 with h1 h4
                      subst h1 h4 h2 h3
                      refine ⟨.bool jump.isNone, _, ?_, ρ2, A2, .bool _, hS4.trans (upLoop_st hS4.mem hr2 (fn := fn2) _ jump ht2 hdf2)⟩
                      rw [← hag2]
                      simp only [Instr.endRound, Sem.run_bind, r_getLoop hw2, Result.andThen_ok, r_setLoop _ hw2, Sem.run_pure]
                    cases ex with
                    | normal => exact fin .ready none true h rfl rfl
                    | exit id => exact fin .done (some (.exit id)) false h rfl rfl
                    | ret => exact fin .done (some .ret) false h rfl rfl
                  · cases h
            · cases h
          · cases h
        · cases h
      · cases h
  · cases h
end
end Go.Proofs.YtepmjghgnhklfaaGreatDoor.det
namespace Go.Proofs.YtepmjghgnhklfaaGreatDoor.det
open Go

section
variable {E : Env} {P : Program} {rc : RC} {rf : RF} {ρ ρ' : Ren} {A A' : Nat → Prop} {M M' : Mem} {w : World}
theorem ofValue_ok {v v' : Value} {fn : Fn} {first cap : Array Value} (hv : v = .func fn first cap) (h : Rv ρ A v v') (as' : Array Value) (w : World) : ∃ fn' first' cap', v' = .func fn' first' cap' ∧ Rfn ρ A fn fn' ∧ AsR ρ A first.toList first' ∧ AsR ρ A cap.toList cap' ∧ (Deferred.ofValue v' as').run P w = .ok { target := .fn fn' cap', args := first' ++ as' } w := by
  subst hv
  cases h with
  | func _ fn' _ xs' _ ys' hf sx hx sy hy => exact ⟨fn', xs', ys', rfl, hf, AsR.of_arr sx hx, AsR.of_arr sy hy, rfl⟩
/-- a call -/
theorem goTg_ok (H : EnvOk E P) (C : SoundC E P rc) (Fs : SoundF E P rf) {fn fn' : Fn} {cap args : List Value} {cap' args' : Array Value} {v : Value} (h : goTg E rc rf (eInvoke E.D fn cap args) M = some (v, M')) (hM : Rm P ρ A M w) (hG : GOK ρ A E.G) (hf : Rfn ρ A fn fn') (hc : AsR ρ A cap cap') (ha : AsR ρ A args args')
    {F : Fence} (hF : FenceOk P F) {o : Oper} {a : Act} {K : Act → World → Prop} {Q : Exit → Act → World → Prop} (hK : ∀ v' w', RetV P ρ A M w v M' v' w' → K (a.put o.dst v') w') : o.uponIn F 0 P a K Q ((invoke (.fn fn' cap') args').run P w) := by
  cases ht : eInvoke E.D fn cap args with
  | none => rw [ht] at h; cases h
  | some t =>
    rw [ht] at h
    rcases eInvoke_ok H.base ht hf hc ha with ⟨f, as, as', rfl, h1, h2⟩ | ⟨l, rfl, h1, h2⟩
    · rw [h1 w]
      rcases callF_ok H Fs h hM hG h2 with ⟨h3, h4⟩ | ⟨v', w', h3, h4⟩
      · rw [h3]
        refine ⟨fun hd => (by rw [hF.depth] at hd; cases hd), hF.calls (h4.mono fun e w' he => ?_)⟩
        cases e with
        | returned v' => exact hK v' w' he
        | panicked c => exact he.elim
        | outgrown => exact he.elim
      · rw [h3]
        exact hK v' w' h4
    · rw [h2 w]
      obtain ⟨f, tmps, asg, body, h3, h4⟩ := roundS_ok C h hM hG h1 ha
      rw [h3]
      refine ⟨fun hd => (by rw [hF.depth] at hd; cases hd), hF.rounds (h4.mono fun e w' he => ?_)⟩
      cases e with
      | returned v' => exact hK v' w' he
      | panicked c => exact he.elim
      | outgrown => exact he.elim
theorem oneS_ok (H : EnvOk E P) (C : SoundC E P rc) (Fs : SoundF E P rf) : OneOk P E.G (oneS E rc rf) := by
  refine ⟨fun {ev o M M' v} h {ρ A w a} hM hG hev {F} hF {K Q} hK => ?_⟩
  have light : opS E.D ev o.op M = some (v, M') → o.wpIn F 0 P a w K Q := fun h => (opS_ok H.base.ok H.base.Z H.base.M H.base.C h hM hev).wpIn hF (opS_nd h) hK
  have hK' : ∀ v' w', RetV P ρ A M w v M' v' w' → K (a.put o.dst v') w' := fun v' w' ⟨ρ', A', h1, h2⟩ => hK ρ' A' v' w' h1 h2
  unfold oneS at h
  split at h
  · rename_i c hop
    split at h
    · rename_i b hb
      exact light (by rw [hop]; exact h)
    · rename_i f hc
      unfold eCallee at h
      split at h
      · rename_i fn first cap hfv
        have hfr := hev f (by rw [hop]; simp [Op.operands, Call.operands, hc])
        have hargs : AsR ρ A (c.args.toList.map ev) (c.args.map a.eval) := AsR.map (fun x hx => hev x (by rw [hop]; simp [Op.operands, Call.operands, hc]; simp at hx; first | exact Or.inl hx | exact Or.inr hx))
        obtain ⟨fn', first', cap', e1, hf', h1, h2, h3⟩ := ofValue_ok (P := P) hfv hfr (c.args.map a.eval) w
        refine ⟨fun _ _ => hF.fn _, ?_⟩
        rw [Oper.semAt_eq _ _ _ (fun d => by rw [hop]; simp)]
        have hrun : (execOp a.eval o).run P w = (invoke (.fn fn' cap') (first' ++ c.args.map a.eval)).run P w := by
          simp only [execOp, hop, resolve, hc, Sem.run_bind, h3, Result.andThen_ok]
        rw [hrun]
        exact goTg_ok H C Fs h hM hG hf' h2 (h1.append hargs) hF hK'
      · cases h
    · rename_i recv name hc
      have hfr := hev recv (by rw [hop]; simp [Op.operands, Call.operands, hc])
      have hargs : AsR ρ A (c.args.toList.map ev) (c.args.map a.eval) := AsR.map (fun x hx => hev x (by rw [hop]; simp [Op.operands, Call.operands, hc]; simp at hx; first | exact Or.inl hx | exact Or.inr hx))
      refine ⟨fun _ _ => hF.fn _, ?_⟩
      rw [Oper.semAt_eq _ _ _ (fun d => by rw [hop]; simp)]
      have hrun : (execOp a.eval o).run P w = (invoke (.fn (.method name) #[]) (#[a.eval recv] ++ c.args.map a.eval)).run P w := by
        simp only [execOp, hop, resolve, hc, Sem.run_bind, Sem.run_pure, Result.andThen_ok]
      rw [hrun]
      exact goTg_ok (args := [ev recv] ++ c.args.toList.map ev) H C Fs h hM hG (.method name) AsR.nil ((AsR.single hfr).append hargs) hF hK'
  · exact light h

/-! ### One after the other -/
theorem seqOps_cons {nt : Nat} {ro : Option Nat} {l : List Oper} {o : Oper} {ops : List Oper} {s : CS} : seqOps E rc rf nt ro l (o :: ops) s = match wantT l s.T o with
    | some true =>
      (match o.op with
      | .defer c =>
        (match ro, eResolve E.D (evO s.T) c with
        | none, some d => seqOps E rc rf nt ro l ops ⟨putT nt o.dst undef s.T, s.M, d :: s.df⟩
        | _, _ => none)
      | _ =>
        (match oneS E rc rf (evO s.T) o s.M with
        | some (v, M') => seqOps E rc rf nt ro l ops ⟨putT nt o.dst v s.T, M', s.df⟩
        | none => none))
    | some false => seqOps E rc rf nt ro l ops ⟨putT nt o.dst undef s.T, s.M, s.df⟩
    | none => none := rfl
theorem Rt.putT {nt : Nat} {T : Tr Value} {a : Act} {v v' : Value} (h : Rt ρ A nt T a.tmps) (hn : nt ≤ lim) (dst : Option Tmp) (hv : Rv ρ A v v') : Rt ρ A nt (putT nt dst v T) (a.put dst v').tmps := by
  cases dst with
  | none => exact h
  | some d => exact h.put hn d hv
theorem resolve_defer {ev : Operand → Value} {a : Act} {c : Call} {d : CDef} (h : eResolve E.D ev c = some d) (hev : ∀ x ∈ c.operands.toList, Rv ρ A (ev x) (a.eval x)) (t : TypeId) (w : World) : ∃ d', (resolve a.eval c t).run P w = .ok d' w ∧ CdR ρ A d d' := by
  unfold eResolve at h
  split at h
  · cases h
  · rename_i f hc
    split at h
    · rename_i fn first cap hfv
      injection h with h
      subst h
      have hfr := hev f (by simp [Call.operands, hc])
      have hargs : AsR ρ A (c.args.toList.map ev) (c.args.map a.eval) := AsR.map (fun x hx => hev x (by simp [Call.operands, hc]; simp at hx; first | exact Or.inl hx | exact Or.inr hx))
      obtain ⟨fn', first', cap', e1, hf', h1, h2, h3⟩ := ofValue_ok (P := P) hfv hfr (c.args.map a.eval) w
      exact ⟨_, by simp only [resolve, hc]; exact h3, .fn _ _ _ _ _ _ hf' h2 (h1.append hargs)⟩
    · cases h
  · rename_i recv name hc
    injection h with h
    subst h
    have hfr := hev recv (by simp [Call.operands, hc])
    have hargs : AsR ρ A (c.args.toList.map ev) (c.args.map a.eval) := AsR.map (fun x hx => hev x (by simp [Call.operands, hc]; simp at hx; first | exact Or.inl hx | exact Or.inr hx))
    exact ⟨_, by simp only [resolve, hc, Sem.run_pure], .fn _ _ _ _ _ _ (.method name) AsR.nil ((AsR.single hfr).append hargs)⟩
theorem evAll {G nt : Nat} {T : Tr Value} {a : Act} {o : Oper} (hG : GOK ρ A G) (hf : fitOp nt G o = true) (hT : Rt ρ A nt T a.tmps) : ∀ x ∈ o.op.operands.toList, Rv ρ A (evO T x) (a.eval x) := by
  unfold fitOp at hf
  rw [Bool.and_eq_true, List.all_eq_true] at hf
  intro x hx
  refine evO_ok hG (hf.1 x hx) (fun t ht => ?_)
  subst ht
  have := hf.1 _ hx
  simp only [fitO, Nat.blt_eq] at this
  exact hT.val t this
theorem want_all {nt : Nat} {T : Tr Value} {a : Act} {ops : Array Oper} {o : Oper} {b : Bool} (hd : ∀ (j : Nat) (y : Oper) (d : Nat), ops[j]? = some y → y.dst = some d → d < nt) (hw : wantT ops.toList T o = some b) (hT : Rt ρ A nt T a.tmps) : Region.wanted o (yielded ops a.tmps) = b := by
  unfold wantT at hw
  unfold Region.wanted
  cases hg : o.guard with
  | none => rw [hg] at hw; cases hw; rfl
  | some p =>
    obtain ⟨j, c⟩ := p
    rw [hg] at hw
    simp only at hw ⊢
    rw [nth_eq, Array.getElem?_toList] at hw
    cases hj : ops[j]? with
    | none => rw [hj] at hw; cases hw
    | some oj =>
      rw [hj] at hw
      simp only at hw
      cases hd2 : oj.dst with
      | none => rw [hd2] at hw; cases hw
      | some d =>
        rw [hd2] at hw
        simp only at hw
        have hlt := hd j oj d hj hd2
        have hv := hT.val d hlt
        have hy : a.tmps[d]? = some (a.tmps.getD d undef) := by
          rw [Array.getD_eq_getD_getElem?, Array.getElem?_eq_getElem (by rw [hT.size]; exact hlt)]
          rfl
        have hyd : yielded ops a.tmps j = match a.tmps.getD d undef with | .bool b => some b | _ => none := by
          unfold yielded
          rw [hj, Option.bind_some, hd2, Option.bind_some, hy]
          generalize a.tmps.getD d undef = q
          cases q <;> rfl
        rw [hyd]
        generalize a.tmps.getD d undef = q at hv
        split at hw
        · rename_i x hx
          rw [hx] at hv
          cases hv
          injection hw with hw
          subst hw
          cases x <;> cases c <;> rfl
        · rename_i x hx
          rw [hx] at hv
          cases hv
          cases hw
          rfl
        · cases hw
theorem seqOps_ok (H : EnvOk E P) (C : SoundC E P rc) (Fs : SoundF E P rf) {nt : Nat} (hn : nt ≤ lim) {ro : Option Nat} {ops : Array Oper} (hfit : ops.toList.all (fitOp nt E.G) = true) {F : Fence} (hF : FenceOk P F) {s' : CS} {ρ0 : Ren} {A0 : Nat → Prop} {M0 : Mem} {w0 : World} :
    ∀ (k : Nat) (s : CS), seqOps E rc rf nt ro ops.toList (ops.toList.drop k) s = some s' → ∀ (ρ : Ren) (A : Nat → Prop) (a : Act) (w : World), St P ρ0 A0 M0 w0 ρ A s.M w → RoOk ρ A ro F → GOK ρ A E.G → Rt ρ A nt s.T a.tmps → DfR ρ A s.df a.defers →
      wpOpsIn F 0 P ops (Done P ρ0 A0 M0 w0 nt .normal s') (List.range' k (ops.size - k)) a w := by
  have hdst : ∀ (j : Nat) (y : Oper) (d : Nat), ops[j]? = some y → y.dst = some d → d < nt := fun j y d hj hd => by
    rw [List.all_eq_true] at hfit
    have := hfit y (by rw [Array.mem_toList_iff]; exact Array.mem_of_getElem? hj)
    unfold fitOp at this
    rw [Bool.and_eq_true, hd] at this
    simpa [Nat.blt_eq] using this.2
  have key : ∀ (m k : Nat) (s : CS), ops.size - k = m → seqOps E rc rf nt ro ops.toList (ops.toList.drop k) s = some s' → ∀ (ρ : Ren) (A : Nat → Prop) (a : Act) (w : World), St P ρ0 A0 M0 w0 ρ A s.M w → RoOk ρ A ro F → GOK ρ A E.G → Rt ρ A nt s.T a.tmps → DfR ρ A s.df a.defers →
      wpOpsIn F 0 P ops (Done P ρ0 A0 M0 w0 nt .normal s') (List.range' k m) a w := by
    intro m
    induction m with
    | zero =>
      intro k s hm h ρ A a w hst hro hG hT hD
      rw [List.drop_eq_nil_of_le (by rw [Array.length_toList]; omega)] at h
      have e : seqOps E rc rf nt ro ops.toList [] s = some s := rfl
      rw [e] at h
      injection h with h
      subst h
      exact ⟨rfl, ρ, A, hst, hT, hD⟩
    | succ m ih =>
      intro k s hm h ρ A a w hst hro hG hT hD
      have hk : k < ops.size := by omega
      rw [List.drop_eq_getElem_cons (by rw [Array.length_toList]; exact hk), Array.getElem_toList] at h
      rw [List.range'_succ]
      unfold wpOpsIn
      have ho : ops[k]? = some ops[k] := Array.getElem?_eq_getElem hk
      rw [ho]
      simp only
      rw [seqOps_cons] at h
      have hfo : fitOp nt E.G ops[k] = true := by
        rw [List.all_eq_true] at hfit
        exact hfit _ (by simp)
      have hev := evAll hG hfo hT
      split at h
      · rename_i hw
        rw [want_all hdst hw hT, if_pos rfl]
        split at h
        · rename_i c hop
          split at h
          · rename_i d hres
            have hr : F.round = none := hro
            obtain ⟨d', h1, h2⟩ := resolve_defer (P := P) hres (a := a) (ρ := ρ) (A := A) (fun x hx => hev x (by rw [hop]; exact hx)) (ops[k].type) w
            refine ⟨fun _ _ => hF.fn _, ?_⟩
            have hrun : (Oper.semAt F.round a.eval ops[k]).run P w = .ok (.defer d') w := by
              rw [hr, Oper.semAt_none]
              simp only [execOp, hop, Sem.run_bind, h1, Result.andThen_ok, Sem.run_pure]
            rw [hrun]
            refine ih (k + 1) _ (by omega) h ρ A _ w hst hro hG (Rt.putT (a := { a with defers := d' :: a.defers }) hT hn _ Rv.und) ?_
            rw [put_defers]
            exact .cons _ _ _ _ h2 hD
          · cases h
        · split at h
          · rename_i v M' hone
            refine (oneS_ok H C Fs).ok hone hst.mem hG hev hF (fun ρ' A' v' w' hv hS => ?_)
            refine ih (k + 1) _ (by omega) h ρ' A' _ w' (hst.trans hS) (hro.up hS.up hS.agree) (hS.gok hG) (Rt.putT (hT.up hS.up hS.agree) hn _ hv) ?_
            rw [put_defers]
            exact hD.up hS.up hS.agree
          · cases h
      · rename_i hw
        rw [want_all hdst hw hT, if_neg (by simp)]
        refine ⟨fun _ _ => hF.fn _, ih (k + 1) _ (by omega) h ρ A _ w hst hro hG (Rt.putT hT hn _ Rv.und) ?_⟩
        rw [put_defers]
        exact hD
      · cases h
  exact fun k s h => key _ k s rfl h
end
end Go.Proofs.YtepmjghgnhklfaaGreatDoor.det
namespace Go.Proofs.YtepmjghgnhklfaaGreatDoor.det
open Go

theorem least (p : Nat → Prop) (h : ∃ n, p n) : ∃ n, p n ∧ ∀ m, m < n → ¬ p m := by
  obtain ⟨n, hn⟩ := h
  induction n using Nat.strongRecOn with
  | _ n ih =>
    by_cases hx : ∃ m, m < n ∧ p m
    · obtain ⟨m, h1, h2⟩ := hx
      exact ih m h1 h2
    · exact ⟨n, hn, fun m h1 h2 => hx ⟨m, h1, h2⟩⟩
open Classical in
theorem wpIn_loop_rec {F : Fence} {n : Nat} {P : Program} {Q : Exit → Act → World → Prop} {c : Code} {a : Act} {w : World} (J : Nat → Act → World → Prop) {m : Nat} (h0 : J m a w)
    (round : ∀ m a w, J m a w → c.wpIn F n P (Exit.then (fun a' w' => ∃ m', m' < m ∧ J m' a' w') Q) a w) : (Code.loop c).wpIn F n P Q a w := by
  refine wpIn_loop (fun a w => ∃ m, J m a w) (fun a w => if h : ∃ m, J m a w then Classical.choose (least _ h) else 0) ⟨m, h0⟩ (fun a w hI => ?_)
  have hsp := Classical.choose_spec (least _ hI)
  refine wpIn_mono (round _ a w hsp.1) (fun e a' w' he => ?_)
  cases e with
  | normal =>
    obtain ⟨m', h1, h2⟩ := he
    refine ⟨⟨m', h2⟩, ?_⟩
    have hex : ∃ m, J m a' w' := ⟨m', h2⟩
    rw [dif_pos hI, dif_pos hex]
    have hsp2 := Classical.choose_spec (least _ hex)
    rcases Nat.lt_or_ge m' (Classical.choose (least _ hex)) with h3 | h3
    · exact (hsp2.2 m' h3 h2).elim
    · exact Nat.lt_of_le_of_lt h3 h1
  | _ => exact he

section
variable {E : Env} {P : Program} {rc : RC} {rf : RF} {ρ ρ' : Ren} {A A' : Nat → Prop} {M M' : Mem} {w : World}
/-! ### A range over a function -/
theorem r_rangeCall (a : Act) (g : Operand) (l : Nat) : resolve a.eval (rangeCall g l) 0 = Deferred.ofValue (a.eval g) #[.func (.yield l) #[] #[]] := by
  simp [resolve, rangeCall, Act.eval]
theorem gather_ok {ro : Option Nat} {F : Fence} {d : Nat} {mk : List CDef} {M1 : Mem} (h : gather ro M = some (d, mk, M1)) (hM : Rm P ρ A M w) (hro : RoOk ρ A ro F) :
    ∃ ρ1 A1 w1 mk', St P ρ A M w ρ1 A1 M1 w1 ∧ A1 d ∧ DfR ρ1 A1 mk mk' ∧ ∀ (fn : FuncId) (tmps : Array Value) (ps : Array Tmp) (asg body : Code),
      (Instr.enterLoop fn tmps ps asg body F.round).run P w = .ok (w1.heap.size, mk') { w1 with heap := w1.heap.push (.loop { state := .ready, pending := none, fn, tmps, params := ps, assign := asg, body, defers := (ρ1 d).1 }) } := by
  unfold gather at h
  split at h
  · rename_i l
    split at h
    · rename_i r hr
      injection h with h
      injection h with h1 h
      injection h with h2 h3
      subst h1 h2 h3
      obtain ⟨hl, hF⟩ := hro
      obtain ⟨fn0, tmps0, hw, ht, hd⟩ := loop_of hM hr
      refine ⟨ρ, A, w, [], .refl hM, hd, .nil, fun fn tmps ps asg body => ?_⟩
      rw [hF]
      simp only [Instr.enterLoop, Sem.run_bind, r_getLoop hw, Result.andThen_ok, Sem.run_pure, run_newObj]
    · cases h
  · cases hb : Nat.blt M.next M.top <;> rw [hb] at h
    · cases h
    · rw [Nat.blt_eq] at hb
      injection h with h
      injection h with h1 h
      injection h with h2 h3
      subst h1 h2 h3
      have hF : F.round = none := hro
      have hst := St.alloc hM hb 0 (o := .deferred (some ())) (o' := .deferred (some [])) .deferred trivial
      refine ⟨rset ρ M.next (w.heap.size, 0), more A M.next, { w with heap := w.heap.push (.deferred (some [])) }, [{ target := .collected w.heap.size, args := #[] }], hst, more_new, ?_, fun fn tmps ps asg body => ?_⟩
      · refine .cons _ _ _ _ ?_ .nil
        have := CdR.mark (ρ := rset ρ M.next (w.heap.size, 0)) (A := more A M.next) M.next more_new
        rw [rset_new] at this
        exact this
      · rw [hF]
        simp only [Instr.enterLoop, Sem.run_bind, run_newObj, Result.andThen_ok, Sem.run_pure, rset_new]
theorem DfR.append {ds es : List CDef} {ds' es' : List Deferred} (h : DfR ρ A ds ds') (h2 : DfR ρ A es es') : DfR ρ A (ds ++ es) (ds' ++ es') := by
  induction h with
  | nil => exact h2
  | cons d d' ds ds' h hs ih => exact .cons _ _ _ _ h ih
theorem rangeS_ok (H : EnvOk E P) (Fs : SoundF E P rf) {cx : CX} {ro : Option Nat} {g : Operand} {ps : Array Tmp} {asg body : Code} {s s' : CS} {ex : Ex} (h : rangeS E rf cx ro g ps asg body s = some (ex, s')) (hfit : fitO E.G cx.nt g = true) {a : Act} {F : Fence} (hF : FenceOk P F) (hro : RoOk ρ A ro F) (hG : GOK ρ A E.G) (hM : Rm P ρ A s.M w) (hT : Rt ρ A cx.nt s.T a.tmps) (hD : DfR ρ A s.df a.defers) :
    (Code.rangeFunc g ps asg body).wpIn F 0 P (Done P ρ A s.M w cx.nt ex s') a w := by
  unfold rangeS at h
  split at h
  · rename_i d mk M1 hg
    obtain ⟨ρ1, A1, w1, mk', hS1, hd, hmk, hrun⟩ := gather_ok hg hM hro
    cases hb : Nat.blt M1.next M1.top <;> rw [hb] at h
    · cases h
    · simp only [cond_true] at h
      rw [Nat.blt_eq] at hb
      split at h
      · rename_i f args hcal
        split at h
        · rename_i v M3 hrf
          refine wpIn_rangeFunc (fun fn _ => ?_)
          have hT1 := hT.up hS1.up hS1.agree
          have hS2 := hS1.trans (St.alloc hS1.mem hb 0 (o := .loop ⟨.ready, none, cx, s.T, ps, asg, body, d⟩) (o' := .loop { state := .ready, pending := none, fn, tmps := a.tmps, params := ps, assign := asg, body, defers := (ρ1 d).1 }) (.loop .ready none fn cx s.T a.tmps ps asg body d hT1 hd) trivial)
          have hag2 : (rset ρ1 M1.next (w1.heap.size, 0) M1.next).1 = w1.heap.size := by rw [rset_new]
          have hev : Rv (rset ρ1 M1.next (w1.heap.size, 0)) (more A1 M1.next) (evO s.T g) (a.eval g) := by
            refine (evO_ok hG hfit (fun t ht => ?_)).up hS2.up hS2.agree
            subst ht
            exact hT.val t (by simpa [fitO, Nat.blt_eq] using hfit)
          have hy : Rv (rset ρ1 M1.next (w1.heap.size, 0)) (more A1 M1.next) (.func (.yield M1.next) #[] #[]) (.func (.yield w1.heap.size) #[] #[]) := by
            have hyf := Rfn.yield (ρ := rset ρ1 M1.next (w1.heap.size, 0)) (k := more A1 M1.next) M1.next more_new
            rw [hag2] at hyf
            exact .func _ _ _ _ _ _ hyf rfl (fun i hi => absurd hi (by simp)) rfl (fun i hi => absurd hi (by simp))
          unfold eCallee at hcal
          split at hcal
          · rename_i fn0 first cap hfv
            obtain ⟨fn', first', cap', e1, hf', h1, h2, h3⟩ := ofValue_ok (P := P) hfv hev #[.func (.yield w1.heap.size) #[] #[]] { w1 with heap := w1.heap.push (.loop { state := .ready, pending := none, fn, tmps := a.tmps, params := ps, assign := asg, body, defers := (ρ1 d).1 }) }
            rcases eInvoke_ok H.base hcal hf' h2 (h1.append (AsR.single hy)) with ⟨f2, as, as', e2, h4, h5⟩ | ⟨l2, e2, _, _⟩
            · injection e2 with e2 e3
              subst e2 e3
              obtain ⟨h6, h7⟩ := Fs f args _ v M3 hrf _ _ as' _ hS2.mem (hS2.gok hG) h5
              refine ⟨w1.heap.size, mk', _, _, _, f, as', _, hrun fn a.tmps ps asg body, (by rw [r_rangeCall]; exact h3), fun _ _ => hF.fn _, ?_, fun hd => (by rw [hF.depth] at hd; cases hd), hF.calls (h7.mono fun e w3 he => ?_)⟩
              · rw [h4]; exact h6
              · cases e with
                | panicked c => exact he.elim
                | outgrown => exact he.elim
                | returned v' =>
                  obtain ⟨ρ3, A3, _, hS3⟩ := he
                  have hS4 := hS2.trans hS3
                  unfold endLoop at h
                  split at h
                  · rename_i r hr
                    obtain ⟨fn3, tmps3, hw3, ht3, hd3⟩ := loop_of hS4.mem hr
                    have hl3 : (ρ3 M1.next).1 = w1.heap.size := by rw [hS3.agree M1.next more_new, hag2]
                    rw [hl3] at hw3
                    have hst5 := upLoop_st hS4.mem hr (fn := fn3) .exhausted r.pending ht3 hd3
                    have hS5 := hS4.trans hst5
                    have hend : r.state ≠ .busy → (Instr.endLoop w1.heap.size).run P w3 = .ok r.pending { w3 with heap := w3.heap.setIfInBounds (ρ3 M1.next).1 (.loop ⟨.exhausted, r.pending, fn3, tmps3, r.params, r.assign, r.body, (ρ3 r.defers).1⟩) } := by
                      intro hb2
                      have hb3 : (r.state == LoopState.busy) = false := by
                        cases hst : r.state <;> first | rfl | exact (hb2 hst).elim
                      simp only [Instr.endLoop, Sem.run_bind, r_getLoop hw3, Result.andThen_ok, hb3, Bool.false_eq_true, if_false, Sem.run_pure, r_setLoop _ hw3, hl3]
                    have hdone : ∀ e, e = exOf ex → ∀ T' df', s' = ⟨T', upLoop M3 M1.next r .exhausted r.pending, df'⟩ → T' = s.T → df' = mk ++ s.df → Done P ρ A s.M w cx.nt ex s' e { a with defers := mk' ++ a.defers } { w3 with heap := w3.heap.setIfInBounds (ρ3 M1.next).1 (.loop ⟨.exhausted, r.pending, fn3, tmps3, r.params, r.assign, r.body, (ρ3 r.defers).1⟩) } := by
                      intro e he T' df' hs' hT' hdf'
                      subst hT' hdf' hs'
                      refine ⟨he, ρ3, A3, hS5, hT.up hS5.up hS5.agree, DfR.append ?_ (hD.up hS5.up hS5.agree)⟩
                      exact hmk.up (fun n hn => hS3.up n (more_old hn)) (fun n hn => by rw [hS3.agree n (more_old hn)]; exact rset_old (hS1.mem.neA hb n hn))
                    split at h
                    · cases h
                    · rename_i hnb
                      have hend := hend hnb
                      split at h
                      · rename_i hp
                        injection h with h
                        injection h with h8 h9
                        refine ⟨none, _, by rw [hend, hp], ?_⟩
                        rw [hp] at hdone
                        exact hdone _ (by rw [← h8]; rfl) s.T _ (by rw [← h9, hp]) rfl rfl
                      · rename_i id hp
                        injection h with h
                        injection h with h8 h9
                        refine ⟨some (.exit id), _, by rw [hend, hp], wpIn_exit ?_⟩
                        rw [hp] at hdone
                        exact hdone _ (by rw [← h8]; rfl) s.T _ (by rw [← h9, hp]) rfl rfl
                      · rename_i hp
                        injection h with h
                        injection h with h8 h9
                        refine ⟨some .ret, _, by rw [hend, hp], wpIn_ret ?_⟩
                        rw [hp] at hdone
                        exact hdone _ (by rw [← h8]; rfl) s.T _ (by rw [← h9, hp]) rfl rfl
                      · cases h
                  · cases h
            · cases e2
          · cases hcal
        · cases h
      · cases h
  · cases h
end
end Go.Proofs.YtepmjghgnhklfaaGreatDoor.det
