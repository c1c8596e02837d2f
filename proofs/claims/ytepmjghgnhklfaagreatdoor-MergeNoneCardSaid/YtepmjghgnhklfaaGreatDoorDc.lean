/-
  Light operations; regions that draw their order.
  Conditions: none.
-/
import Derived.Test.YtepmjghgnhklfaaGreatDoorDb
import Derived.OrdersIn
namespace Go.Proofs.YtepmjghgnhklfaaGreatDoor.det
open Go

section
variable {D : Dat} {P : Program} {ρ : Ren} {A : Nat → Prop} {M : Mem} {w : World}

inductive Sm where
  | val (v : Value)
  | new (o : CObj) (f : Nat → Value)
noncomputable def nAlloc (D : Dat) (e : TypeId) : Option Sm :=
  match D.ti e with
  | some i => (match i.zero with | some z => some (.new (.cells z.cells.toList e) at0) | none => none)
  | none => none
def exact (l c : Nat) (n : Nat) : Value := .slice (some ⟨n, 0, none⟩) l c
noncomputable def nBuildSlice (D : Dat) (t : TypeId) (len : Nat) (parts : List (Nat × Value)) : Option Sm :=
  match D.un t with
  | some (.slice e) =>
    (match D.ti e with
    | some i =>
      (match i.zero with
      | some z =>
        bif Nat.ble (Nat.mul len i.size) 16777216 && Nat.beq z.cells.toList.length i.size && Nat.blt 0 i.size then
          (match efill (fun j => some (Nat.mul j i.size, i.size)) (rep z.cells.toList len) parts with
          | some cs => some (.new (.cells cs e) (exact len len))
          | none => none)
        else none
      | none => none)
    | none => none)
  | _ => none
noncomputable def nMakeSlice (D : Dat) (t : TypeId) (l c : Value) : Option Sm :=
  match D.un t, natOf l, natOf c with
  | some (.slice e), some l, some c =>
    (match D.ti e with
    | some i =>
      (match i.zero with
      | some z =>
        bif Nat.ble l c && Nat.ble (Nat.mul i.bytes c) 281474976710656 && Nat.ble c 281474976710656 && Nat.beq z.cells.toList.length i.size then some (.new (.cells (rep z.cells.toList c) e) (exact l c)) else none
      | none => none)
    | none => none)
  | _, _, _ => none
noncomputable def nToBytes (D : Dat) (src dst : TypeId) (x : Value) : Option Sm :=
  match D.un src, D.un dst, x with
  | some _, some (.slice e), .string s => (match D.un e with | some (.int .u8) => some (.new (.cells (u8s (bl s)) e) (opn (bl s).length)) | _ => none)
  | _, _, _ => none
noncomputable def nRange (D : Dat) (t : TypeId) (x : Value) (M : Mem) : Option Sm :=
  match D.un t, x with
  | some .string, .string s => some (.new (.strIter s 0) at0)
  | some (.map _ _), .map none => some (.new (.mapIter none 0 [] 0) at0)
  | some (.map _ _), .map (some r) => (match M.get r with | some (.map _ cl) => some (.new (.mapIter (some r) cl [] cl) at0) | _ => none)
  | _, _ => none
def vMap (n : Nat) : Value := .map (some n)
noncomputable def runSm (M : Mem) : Option Sm → Option (Value × Mem)
  | some (.val v) => some (v, M)
  | some (.new o f) => mk M o f
  | none => none
def valO : Option Value → Option Sm
  | some v => some (.val v)
  | none => none
theorem valO_run (M : Mem) (r : Option Value) : runSm M (valO r) = pairM M r := by cases r <;> rfl
theorem nAlloc_run (e : TypeId) : runSm M (nAlloc D e) = eAlloc D e M := by
  unfold nAlloc eAlloc
  cases D.ti e with
  | none => rfl
  | some i => cases h : i.zero <;> simp only [h] <;> rfl
theorem nBuildSlice_run (t : TypeId) (len : Nat) (ps : List (Nat × Value)) : runSm M (nBuildSlice D t len ps) = eBuildSlice D t len ps M := by
  unfold nBuildSlice eBuildSlice
  cases hu : D.un t with
  | none => rfl
  | some d =>
    cases d <;> try rfl
    rename_i e
    dsimp only
    cases hi : D.ti e with
    | none => rfl
    | some i =>
      dsimp only
      cases hz : i.zero with
      | none => rfl
      | some z =>
        dsimp only
        cases (Nat.ble (Nat.mul len i.size) 16777216 && Nat.beq z.cells.toList.length i.size && Nat.blt 0 i.size)
        · rfl
        · simp only [cond_true]
          cases efill (fun j => some (Nat.mul j i.size, i.size)) (rep z.cells.toList len) ps <;> rfl
theorem nMakeSlice_run (t : TypeId) (l c : Value) : runSm M (nMakeSlice D t l c) = eMakeSlice D t l c M := by
  unfold nMakeSlice eMakeSlice
  cases hu : D.un t with
  | none => rfl
  | some d =>
    cases d <;> try rfl
    rename_i e
    try dsimp only
    cases hl : natOf l with
    | none => rfl
    | some l0 =>
      try dsimp only
      cases hc : natOf c with
      | none => rfl
      | some c0 =>
        dsimp only
        cases hi : D.ti e with
        | none => rfl
        | some i =>
          dsimp only
          cases hz : i.zero with
          | none => rfl
          | some z =>
            dsimp only
            cases (Nat.ble l0 c0 && Nat.ble (Nat.mul i.bytes c0) 281474976710656 && Nat.ble c0 281474976710656 && Nat.beq z.cells.toList.length i.size) <;> rfl
theorem nToBytes_run (s d : TypeId) (x : Value) : runSm M (nToBytes D s d x) = eToBytes D s d x M := by
  unfold nToBytes eToBytes
  cases hs : D.un s with
  | none => rfl
  | some _ =>
    cases hd : D.un d with
    | none => rfl
    | some dd =>
      cases dd <;> try rfl
      rename_i e
      cases x <;> try rfl
      dsimp only
      cases he : D.un e with
      | none => rfl
      | some de =>
        cases de <;> try rfl
        rename_i k
        cases k <;> rfl
theorem nRange_run (t : TypeId) (x : Value) : runSm M (nRange D t x M) = eRange D t x M := by
  unfold nRange eRange
  cases hu : D.un t with
  | none => rfl
  | some d =>
    cases d <;> try rfl
    · cases x <;> rfl
    · cases x <;> try rfl
      rename_i r
      cases r with
      | none => rfl
      | some r =>
        dsimp only
        cases M.get r with
        | none => rfl
        | some o => cases o <;> rfl
/-- a light operation; none: it is no light one, or it does not run -/
noncomputable def smS (D : Dat) (ev : Operand → Value) (op : Op) (M : Mem) : Option Sm :=
  match op with
  | .move x => some (.val (ev x))
  | .assign x => some (.val (ev x))
  | .pick c a b => (match ev c with | .bool t => some (.val (bif t then ev a else ev b)) | _ => none)
  | .alloc e => nAlloc D e
  | .box e x => some (.new (.cells (ev x).cells.toList e) at0)
  | .build t ps => valO (eBuild D t (ps.toList.map fun p => (p.1, ev p.2)))
  | .buildSlice t n ps => nBuildSlice D t n (ps.toList.map fun p => (p.1, ev p.2))
  | .load t a => valO (eLoadAt D t (ev a) M)
  | .nilCheck x => valO (eNil D (ev x))
  | .binOp op t x y _ => valO (eBin D op t (isC x) (isC y) (ev x) (ev y))
  | .unOp op _ x => valO (eUn op (ev x))
  | .convert s d x => (match eConv D s d (ev x) with | some v => some (.val v) | none => (match eToStr D s d (ev x) M with | some v => some (.val v) | none => nToBytes D s d (ev x)))
  | .makeInterface t x => valO (eMkIf D t (ev x))
  | .makeFunc fn first cap => (match fn with | .yield _ => none | fn => some (.val (.func fn (first.toList.map ev).toArray (cap.toList.map ev).toArray)))
  | .makeMap _ none => some (.new (.map [] 0) vMap)
  | .makeSlice t l c => nMakeSlice D t (ev l) (ev c)
  | .slice t x lo hi mx => valO (eSlice D t (ev x) (lo.map ev) (hi.map ev) (mx.map ev))
  | .fieldAddr s x f => valO (eFieldAddr D s (ev x) f)
  | .field t x f => valO (eField D t (ev x) f)
  | .indexAddr t x i => valO (eIndexAddr D t (ev x) (ev i))
  | .index t x i => valO (eIndex D t (ev x) (ev i))
  | .lookup t x k c => valO (eLookup D t (ev x) (ev k) c M)
  | .range t x => nRange D t (ev x) M
  | .entry it => valO (eEntry (ev it) M)
  | .typeAssert x _ t c => valO (eAssert D (ev x) t c)
  | .extract x i => valO (eExtract (ev x) i)
  | .call c =>
    (match c.callee, c.args.toList with
    | .builtin .len, [x] => valO (eLen D c.argTypes.toList (ev x) M)
    | .builtin .cap, [x] => valO (eCap D c.argTypes.toList (ev x))
    | .builtin .min, l => valO (eMinMax true (l.map ev))
    | .builtin .max, l => valO (eMinMax false (l.map ev))
    | _, _ => none)
  | _ => none
theorem smS_opS {ev : Operand → Value} {op : Op} {s : Sm} (h : smS D ev op M = some s) : opS D ev op M = runSm M (some s) := by
  have hv : ∀ r, valO r = some s → pairM M r = runSm M (some s) := fun r hr => by rw [← valO_run, hr]
  cases op <;> simp only [smS] at h
  case move => injection h with h; subst h; rfl
  case assign => injection h with h; subst h; rfl
  case pick =>
    simp only [opS]
    split at h
    · rename_i t ht
      injection h with h; subst h; simp only [ht]; rfl
    · cases h
  case alloc => simp only [opS]; rw [← nAlloc_run, h]
  case box => injection h with h; subst h; rfl
  case buildSlice => simp only [opS]; rw [← nBuildSlice_run, h]
  case convert =>
    simp only [opS, eConvert]
    split at h
    · rename_i v hc
      injection h with h; subst h; simp only [hc]; rfl
    · rename_i hc
      simp only [hc]
      split at h
      · rename_i v hc2
        injection h with h; subst h; simp only [hc2]; rfl
      · rename_i hc2
        simp only [hc2]
        rw [← nToBytes_run, h]
  case makeFunc fn _ _ =>
    simp only [opS]
    cases fn <;> dsimp only at h ⊢ <;> first
      | (injection h with h; subst h; rfl)
      | cases h
  case makeMap t r =>
    cases r with
    | none =>
      simp only [smS] at h
      injection h with h; subst h; rfl
    | some x => simp only [smS] at h; cases h
  case makeSlice => simp only [opS]; rw [← nMakeSlice_run, h]
  case range => simp only [opS]; rw [← nRange_run, h]
  case call c =>
    simp only [opS]
    cases hb : c.callee with
    | builtin b =>
      rw [hb] at h
      dsimp only at h ⊢
      have one : ∀ (g : Value → Option Value), (match c.args.toList with | [x] => valO (g (ev x)) | _ => none) = some s → ∃ x, c.args.toList = [x] ∧ valO (g (ev x)) = some s := by
        intro g hg
        split at hg
        · rename_i x hx
          exact ⟨x, hx, hg⟩
        · cases hg
      cases b <;> try dsimp only at h
      all_goals try (cases h; done)
      case len =>
        obtain ⟨x, hx, hg⟩ := one (fun x => eLen D c.argTypes.toList x M) (by revert h; cases c.args.toList with | nil => exact id | cons x r => cases r <;> exact id)
        rw [hx, ← hv _ hg]
        rfl
      case cap =>
        obtain ⟨x, hx, hg⟩ := one (fun x => eCap D c.argTypes.toList x) (by revert h; cases c.args.toList with | nil => exact id | cons x r => cases r <;> exact id)
        rw [hx, ← hv _ hg]
        rfl
      case min =>
        rw [← hv _ h]
        rfl
      case max =>
        rw [← hv _ h]
        rfl
    | value x => rw [hb] at h; cases h
    | invoke a b => rw [hb] at h; cases h
  all_goals first | (simp only [opS]; exact hv _ h) | cases h
/-- the blocks that a light operation looks at -/
noncomputable def tch (ev : Operand → Value) (op : Op) (M : Mem) : List Nat :=
  match op with
  | .load _ a => (match ev a with | .pointer (some a) => [a.block] | _ => [])
  | .convert _ _ x => (match ev x with | .slice (some a) _ _ => [a.block] | _ => [])
  | .lookup _ x _ _ => (match ev x with | .map (some r) => [r] | _ => [])
  | .range _ x => (match ev x with | .map (some r) => [r] | _ => [])
  | .entry it => (match ev it with | .pointer (some a) => (match M.get a.block with | some (.mapIter (some m) _ _ _) => [a.block, m] | _ => [a.block]) | _ => [])
  | .call c => (match c.args.toList with | [x] => (match ev x with | .map (some r) => [r] | _ => []) | _ => [])
  | _ => []
theorem eCells_loc {M1 M2 : Mem} {b : Nat} (h : M1.get b = M2.get b) : eCells M1 b = eCells M2 b := by
  unfold eCells
  rw [h]
theorem smS_loc {ev : Operand → Value} {op : Op} {M1 M2 : Mem} (h : ∀ b ∈ tch ev op M1, M1.get b = M2.get b) : smS D ev op M1 = smS D ev op M2 := by
  cases op <;> try rfl
  case load t a =>
    simp only [smS]
    congr 1
    unfold eLoadAt
    simp only [tch] at h
    cases hx : ev a <;> rw [hx] at h <;> try rfl
    rename_i a0
    cases a0 with
    | none => rfl
    | some a0 =>
      obtain ⟨b, o, s⟩ := a0
      cases s with
      | none =>
        simp only
        rw [eCells_loc (h b (by simp))]
      | some _ => rfl
  case convert s d x =>
    simp only [smS]
    have : eToStr D s d (ev x) M1 = eToStr D s d (ev x) M2 := by
      simp only [tch] at h
      unfold eToStr
      cases hx : ev x <;> rw [hx] at h <;> try rfl
      rename_i a0 l c
      cases a0 with
      | none => rfl
      | some a0 =>
        obtain ⟨b, o, s⟩ := a0
        have hb := h b (by simp)
        have hs : ∀ n, eSrc M1 1 n (.slice (some ⟨b, o, s⟩) l c) = eSrc M2 1 n (.slice (some ⟨b, o, s⟩) l c) := by
          intro n
          unfold eSrc
          cases s with
          | none => simp only [eCells_loc hb]
          | some n =>
            match n with
            | 0 => simp only [eCells_loc hb]
            | 1 => rfl
            | n + 2 => simp only [eCells_loc hb]
        simp only [hs]
    rw [this]
  case lookup t x k c =>
    simp only [smS]
    congr 1
    simp only [tch] at h
    unfold eLookup
    cases hx : ev x <;> rw [hx] at h <;> try rfl
    rename_i r
    cases r with
    | none => rfl
    | some r =>
      simp only
      rw [h r (by simp)]
  case range t x =>
    simp only [smS]
    simp only [tch] at h
    unfold nRange
    cases hu : D.un t with
    | none => rfl
    | some d =>
      cases hx : ev x <;> cases d <;> try rfl
      rename_i r _ _
      rw [hx] at h
      cases r with
      | none => rfl
      | some r =>
        have := h r (by simp)
        simp only [this]
  case entry it =>
    simp only [smS]
    congr 1
    simp only [tch] at h
    unfold eEntry
    cases hx : ev it <;> rw [hx] at h <;> try rfl
    rename_i a0
    cases a0 with
    | none => rfl
    | some a0 =>
      obtain ⟨b, o, s⟩ := a0
      simp only at h
      have hb : M1.get b = M2.get b := h b (by split <;> simp)
      cases o with
      | succ _ => rfl
      | zero =>
        cases s with
        | some _ => rfl
        | none =>
          simp only
          rw [← hb]
          cases hg : M1.get b with
          | none => rfl
          | some x =>
            cases x <;> try rfl
            rename_i m _ _ _
            cases m with
            | none => rfl
            | some m =>
              rw [hg] at h
              simp only
              rw [h m (by simp)]
  case makeMap t r => cases r <;> rfl
  case call c =>
    simp only [smS]
    cases hc : c.callee <;> try rfl
    rename_i b
    cases ha : c.args.toList with
    | nil => cases b <;> rfl
    | cons x r =>
      cases r with
      | cons _ _ => cases b <;> rfl
      | nil =>
        have hl : eLen D c.argTypes.toList (ev x) M1 = eLen D c.argTypes.toList (ev x) M2 := by
          simp only [tch, ha] at h
          unfold eLen
          cases hts : c.argTypes.toList with
          | nil => rfl
          | cons t _ =>
            dsimp only
            cases hu : D.un t with
            | none => rfl
            | some d =>
              cases hx : ev x <;> cases d <;> try rfl
              rename_i r _ _
              rw [hx] at h
              cases r with
              | none => rfl
              | some r =>
                have := h r (by simp)
                simp only [this]
        cases b <;> try rfl
        exact congrArg valO hl
theorem smS_next {ev : Operand → Value} {op : Op} (t : Tr CObj) (k k' e e' : Nat) : smS D ev op ⟨t, k, e⟩ = smS D ev op ⟨t, k', e'⟩ := smS_loc (fun _ _ => rfl)
end
end Go.Proofs.YtepmjghgnhklfaaGreatDoor.det
namespace Go.Proofs.YtepmjghgnhklfaaGreatDoor.det
open Go

section
variable {D : Dat} {P : Program} {ρ : Ren} {A : Nat → Prop} {M : Mem} {w : World}

/-! ### Operands -/
noncomputable def evO (T : Tr Value) : Operand → Value
  | .tmp t => tget T t
  | .const v => v
  | .global g => .pointer (some ⟨g, 0, none⟩)
  | .func f => .func (.func f) #[] #[]
noncomputable def fitO (G nt : Nat) : Operand → Bool
  | .tmp t => Nat.blt t nt
  | .const v => plain 9 v
  | .global g => Nat.blt g G
  | .func _ => true
/-- the program's own variables lie where they lie -/
def GOK (ρ : Ren) (A : Nat → Prop) (G : Nat) : Prop := ∀ g, g < G → A g ∧ (ρ g).1 = g
theorem GOK.up {ρ' : Ren} {A' : Nat → Prop} {G : Nat} (h : GOK ρ A G) (ag : ∀ n, A n → ρ' n = ρ n) (up : ∀ n, A n → A' n) : GOK ρ' A' G := fun g hg => ⟨up g (h g hg).1, by rw [ag g (h g hg).1]; exact (h g hg).2⟩
theorem StF.gok {g g' : Nat → Option CObj} {k e k' e' G : Nat} {ρ' : Ren} {A' : Nat → Prop} {w' : World} (h : StF P ρ A g k e w ρ' A' g' k' e' w') (hg : GOK ρ A G) : GOK ρ' A' G := hg.up h.agree h.up
theorem evO_ok {G nt : Nat} {T : Tr Value} {a : Act} {x : Operand} (hg : GOK ρ A G) (hf : fitO G nt x = true) (ht : ∀ t, x = .tmp t → Rv ρ A (tget T t) (a.tmps.getD t undef)) : Rv ρ A (evO T x) (a.eval x) := by
  cases x with
  | tmp t => exact ht t rfl
  | const v => exact plain_rv 9 v hf
  | global g =>
    have hb : g < G := by
      simp only [fitO, Nat.blt_eq] at hf
      exact hf
    have := Rv.ptr (ρ := ρ) (k := A) g 0 (hg g hb).1
    rw [(hg g hb).2] at this
    exact this
  | func f => exact .func _ _ _ _ _ _ (.func f) rfl (fun i hi => absurd hi (by simp)) rfl (fun i hi => absurd hi (by simp))

/-! ### Memory beside memory -/
def un (g r : Nat → Option CObj) : Nat → Option CObj := fun n => match g n with | some o => some o | none => r n
theorem un_left {g r : Nat → Option CObj} {n : Nat} {o : CObj} (h : g n = some o) : un g r n = some o := by simp only [un, h]
theorem un_right {g r : Nat → Option CObj} {n : Nat} (h : g n = none) : un g r n = r n := by simp only [un, h]
theorem un_some {g r : Nat → Option CObj} {n : Nat} {o : CObj} (h : un g r n = some o) : g n = some o ∨ (g n = none ∧ r n = some o) := by
  unfold un at h
  split at h
  · rename_i o' ho
    injection h with h
    subst h
    exact Or.inl ho
  · rename_i ho
    exact Or.inr ⟨ho, h⟩
theorem RmF.block_lt {g : Nat → Option CObj} {k e : Nat} (h : RmF P ρ A g k e w) {a : Nat} {o : CObj} (ha : g a = some o) : (ρ a).1 < w.heap.size := by
  obtain ⟨o', h1, _⟩ := h.obj a o ha
  rcases Nat.lt_or_ge (ρ a).1 w.heap.size with h2 | h2
  · exact h2
  · rw [Array.getElem?_eq_none h2] at h1; cases h1
/-- what a step does not touch stays -/
theorem StF.beside {g r g' : Nat → Option CObj} {k e k' e' : Nat} {ρ' : Ren} {A' : Nat → Prop} {w' : World} (hd : ∀ n o o', g n = some o → r n = some o' → False) (hU : RmF P ρ A (un g r) k e w) (h : StF P ρ A g k e w ρ' A' g' k' e' w') :
    StF P ρ A (un g r) k e w ρ' A' (un g' r) k' e' w' := by
  have hr : ∀ n o, r n = some o → un g r n = some o := fun n o hn => by
    cases hg : g n with
    | none => rw [un_right hg]; exact hn
    | some o' => exact (hd n o' o hg hn).elim
  have hA : ∀ n o, r n = some o → A n := fun n o hn => hU.live n o (hr n o hn)
  have hne : ∀ n o m o', r n = some o → g' m = some o' → (ρ' m).1 ≠ (ρ n).1 := by
    intro n o m o' hn hm e1
    rcases h.img m o' hm with h1 | ⟨m2, o2, h1, h2⟩
    · have := hU.block_lt (hr n o hn)
      omega
    · have e2 := hU.inj m2 n o2 o (un_left h1) (hr n o hn) (by rw [← h2]; exact e1)
      subst e2
      exact hd _ _ _ h1 hn
  refine ⟨h.agree, h.up, h.fresh, h.next, h.top, ⟨?_, ?_, ?_, h.mem.sub, h.mem.small, h.mem.lim⟩, h.size, h.tape, h.os, h.output, ?_, ?_⟩
  · intro a b oa ob ha hb e1
    rcases un_some ha with h1 | ⟨h1, h1'⟩ <;> rcases un_some hb with h2 | ⟨h2, h2'⟩
    · exact h.mem.inj a b oa ob h1 h2 e1
    · rw [h.agree b (hA b ob h2')] at e1
      exact (hne b ob a oa h2' h1 e1).elim
    · rw [h.agree a (hA a oa h1')] at e1
      exact (hne a oa b ob h1' h2 e1.symm).elim
    · rw [h.agree b (hA b ob h2'), h.agree a (hA a oa h1')] at e1
      exact hU.inj a b oa ob (hr a oa h1') (hr b ob h2') e1
  · intro a o ha
    rcases un_some ha with h1 | ⟨_, h1⟩
    · exact h.mem.obj a o h1
    · obtain ⟨o', h2, h3, h4⟩ := hU.obj a o (hr a o h1)
      rw [h.agree a (hA a o h1)]
      refine ⟨o', ?_, h3.up h.up h.agree, h4⟩
      rw [h.frame _ (hU.block_lt (hr a o h1)) ?_]
      · exact h2
      · intro n x hn e1
        have := hU.inj n a x o (un_left hn) (hr a o h1) e1
        subst this
        exact hd _ _ _ hn h1
  · intro a o ha
    rcases un_some ha with h1 | ⟨_, h1⟩
    · exact h.mem.live a o h1
    · exact h.up a (hA a o h1)
  · intro b hb hf
    exact h.frame b hb (fun n o hn => hf n o (un_left hn))
  · intro n o hn
    rcases un_some hn with h1 | ⟨_, h1⟩
    · rcases h.img n o h1 with h2 | ⟨m, o2, h2, h3⟩
      · exact Or.inl h2
      · exact Or.inr ⟨m, o2, un_left h2, h3⟩
    · exact Or.inr ⟨n, o, hr n o h1, by rw [h.agree n (hA n o h1)]⟩
/-- the same memory, looked at in another way -/
theorem StF.cong {g g' : Nat → Option CObj} {k e k' e' k2 : Nat} {ρ' : Ren} {A' : Nat → Prop} {w' : World} {g2 : Nat → Option CObj} (h : StF P ρ A g k e w ρ' A' g' k' e' w') (hg : ∀ n, g2 n = g' n) (hk : k' ≤ k2) : StF P ρ A g k e w ρ' A' g2 k2 e' w' := by
  have : g2 = g' := funext hg
  subst this
  refine ⟨h.agree, h.up, h.fresh, Nat.le_trans h.next hk, h.top, ⟨h.mem.inj, h.mem.obj, h.mem.live, fun n hn => ?_, h.mem.small, h.mem.lim⟩, h.size, h.tape, h.os, h.output, h.frame, h.img⟩
  have := h.mem.sub n hn
  omega
/-- a fence that keeps nothing out -/
structure FenceOk (P : Program) (F : Fence) : Prop where
  fn : ∀ f, F.fn f
  depth : F.depth = none
  calls : ∀ {f : FuncId} {args : Array Value} {w : World} {R : Ending → World → Prop}, CallsIn Fence.wide 0 P f args w R → CallsIn F 0 P f args w R
  rounds : ∀ {l : Nat} {f : FuncId} {tmps : Array Value} {assign body : Code} {w : World} {R : Ending → World → Prop}, RoundIn Fence.wide 0 P l f tmps assign body w R → RoundIn F 0 P l f tmps assign body w R
  eq : F.round = none → F = Fence.wide
theorem FenceOk.wide : FenceOk P Fence.wide := ⟨fun _ => trivial, rfl, id, id, fun _ => rfl⟩
theorem FenceOk.round (l : Nat) : FenceOk P (Fence.wide.inRound l) := ⟨fun _ => trivial, rfl, id, id, fun h => by cases h⟩
theorem opS_nd {ev : Operand → Value} {op : Op} {r : Value × Mem} (h : opS D ev op M = some r) : ∀ c, op ≠ .defer c := fun c e => by
  subst e
  cases h
/-- one operation's place in a run -/
theorem So.wpIn {n : Nat} {F : Fence} (hF : FenceOk P F) {a : Act} {o : Oper} (hnd : ∀ c, o.op ≠ .defer c) {v : Value} {M' : Mem} (h : So P ρ A M w (execOp a.eval o) v M') {K : Act → World → Prop} {Q : Exit → Act → World → Prop} (hK : ∀ ρ' A' v' w', Rv ρ' A' v v' → St P ρ A M w ρ' A' M' w' → K (a.put o.dst v') w') : o.wpIn F n P a w K Q := by
  obtain ⟨ρ', A', w', v', nx, h1, h2, h3, h4⟩ := h
  refine ⟨fun _ _ => hF.fn _, ?_⟩
  show Oper.uponIn _ _ _ _ _ _ _ ((Oper.semAt F.round a.eval o).run P w)
  rw [Oper.semAt_eq _ _ _ hnd, h1]
  rcases h2 with rfl | ⟨rfl, rfl⟩
  · exact hK ρ' A' v' w' h3 h4
  · exact hK ρ' A' undef w' h3 h4

/-! ### The same value -/
def veqS : Option Nat → Option Nat → Bool
  | none, none => true
  | some a, some b => Nat.beq a b
  | _, _ => false
theorem veqS_eq {a b : Option Nat} (h : veqS a b = true) : a = b := by
  unfold veqS at h
  split at h
  · rfl
  · rw [Nat.beq_eq] at h; rw [h]
  · cases h
def veqA : Option Addr → Option Addr → Bool
  | none, none => true
  | some a, some b => Nat.beq a.block b.block && Nat.beq a.off b.off && veqS a.spot b.spot
  | _, _ => false
theorem veqA_eq {a b : Option Addr} (h : veqA a b = true) : a = b := by
  unfold veqA at h
  split at h
  · rfl
  · rename_i a b
    rw [Bool.and_eq_true, Bool.and_eq_true, Nat.beq_eq, Nat.beq_eq] at h
    obtain ⟨a1, a2, a3⟩ := a
    obtain ⟨b1, b2, b3⟩ := b
    obtain ⟨⟨h1, h2⟩, h3⟩ := h
    have h3 := veqS_eq h3
    simp only at h1 h2 h3
    rw [h1, h2, h3]
  · cases h
def veq0 : Value → Value → Bool
  | .bool a, b => (match b with | .bool b => (bif a then b else not b) | _ => false)
  | .int i a, b => (match b with | .int j b => decide (i = j) && ieq a b | _ => false)
  | .string a, b => (match b with | .string b => leq (bl a) (bl b) | _ => false)
  | .pointer a, b => (match b with | .pointer b => veqA a b | _ => false)
  | .slice a l c, b => (match b with | .slice b l' c' => veqA a b && Nat.beq l l' && Nat.beq c c' | _ => false)
  | .map a, b => (match b with | .map b => veqS a b | _ => false)
  | .nilFunc, b => (match b with | .nilFunc => true | _ => false)
  | .nilIface, b => (match b with | .nilIface => true | _ => false)
  | _, _ => false
theorem veq0_eq {a b : Value} (h : veq0 a b = true) : a = b := by
  cases a <;> simp only [veq0] at h <;> try (cases h)
  case bool a =>
    split at h
    · rename_i b
      cases a <;> cases b <;> first | rfl | cases h
    · cases h
  case int i a =>
    split at h
    · rename_i j b
      rw [Bool.and_eq_true, decide_eq_true_eq, ieq_eq, beq_iff_eq] at h
      rw [h.1, h.2]
    · cases h
  case string a =>
    split at h
    · rename_i b
      rw [leq_eq, beq_iff_eq] at h
      obtain ⟨⟨x⟩⟩ := a
      obtain ⟨⟨y⟩⟩ := b
      simp only [bl] at h
      rw [h]
    · cases h
  case pointer a =>
    split at h
    · rw [veqA_eq h]
    · cases h
  case slice a l c =>
    split at h
    · rw [Bool.and_eq_true, Bool.and_eq_true, Nat.beq_eq, Nat.beq_eq] at h
      rw [veqA_eq h.1.1, h.1.2, h.2]
    · cases h
  case map a =>
    split at h
    · rw [veqS_eq h]
    · cases h
  case nilFunc =>
    split at h
    · rfl
    · cases h
  case nilIface =>
    split at h
    · rfl
    · cases h
def veq1 : Value → Value → Bool
  | .iface t a, b => (match b with | .iface u b => Nat.beq t u && veq0 a b | _ => false)
  | a, b => veq0 a b
theorem veq1_eq {a b : Value} (h : veq1 a b = true) : a = b := by
  unfold veq1 at h
  split at h
  · split at h
    · rw [Bool.and_eq_true, Nat.beq_eq] at h
      rw [h.1, veq0_eq h.2]
    · cases h
  · exact veq0_eq h
def veqL (eq : Value → Value → Bool) : List Value → List Value → Bool
  | [], l => l.isEmpty
  | x :: xs, l => (match l with | y :: ys => bif eq x y then veqL eq xs ys else false | [] => false)
theorem veqL_eq {eq : Value → Value → Bool} (he : ∀ a b, eq a b = true → a = b) : ∀ {xs ys : List Value}, veqL eq xs ys = true → xs = ys
  | [], ys, h => by
    unfold veqL at h
    cases ys with
    | nil => rfl
    | cons _ _ => cases h
  | x :: xs, ys, h => by
    unfold veqL at h
    cases ys with
    | nil => cases h
    | cons y ys =>
      simp only at h
      cases hxy : eq x y <;> rw [hxy] at h
      · cases h
      · rw [he x y hxy, veqL_eq he h]
def veq2 : Value → Value → Bool
  | .agg xs, b => (match b with | .agg ys => veqL veq1 xs.toList ys.toList | _ => false)
  | a, b => veq1 a b
theorem veq2_eq {a b : Value} (h : veq2 a b = true) : a = b := by
  unfold veq2 at h
  split at h
  · split at h
    · rename_i xs ys
      have := veqL_eq (fun _ _ => veq1_eq) h
      rw [Array.toList_inj.mp this]
    · cases h
  · exact veq1_eq h
def veq : Value → Value → Bool
  | .tuple xs, b => (match b with | .tuple ys => veqL veq2 xs.toList ys.toList | _ => false)
  | a, b => veq2 a b
theorem veq_eq {a b : Value} (h : veq a b = true) : a = b := by
  unfold veq at h
  split at h
  · split at h
    · have := veqL_eq (fun _ _ => veq2_eq) h
      rw [Array.toList_inj.mp this]
    · cases h
  · exact veq2_eq h
end
end Go.Proofs.YtepmjghgnhklfaaGreatDoor.det
namespace Go.Proofs.YtepmjghgnhklfaaGreatDoor.det
open Go

/-- temporaries, memory, blocks that lie apart (whose, name, what), values that were read -/
structure RS where
  T : Tr Value
  H : Mem
  L : List (Nat × Nat × CObj)
  W : List (Nat × Oper × Value)
noncomputable def memb (n : Nat) (l : List Nat) : Bool := List.rec false (fun a _ ih => bif Nat.beq n a then true else ih) l
theorem memb_iff {n : Nat} {l : List Nat} : memb n l = true ↔ n ∈ l := by
  induction l with
  | nil => simp [memb]
  | cons a l ih =>
    have : memb n (a :: l) = bif Nat.beq n a then true else memb n l := rfl
    rw [this, List.mem_cons]
    cases h : Nat.beq n a
    · rw [cond_false, ih]
      have : n ≠ a := fun e => by subst e; simp at h
      simp [this]
    · rw [Nat.beq_eq] at h
      simp [h]
theorem memb_false {n : Nat} {l : List Nat} (h : memb n l = false) : n ∉ l := fun h1 => by rw [memb_iff.mpr h1] at h; cases h
section
variable (D : Dat) (nt : Nat) (one : (Operand → Value) → Oper → Mem → Option (Value × Mem)) (l : List Oper)

noncomputable def absT (ab : List Nat) (L : List (Nat × Nat × CObj)) (t : Tr CObj) : Tr CObj := List.rec t (fun x _ ih => bif memb x.1 ab then ih.set 64 x.2.1 (some x.2.2) else ih) L
noncomputable def absA (L : List (Nat × Nat × CObj)) (t : Tr CObj) : Tr CObj := List.rec t (fun x _ ih => ih.set 64 x.2.1 (some x.2.2)) L
noncomputable def absL {α : Type} (ab : List Nat) (L : List (Nat × α)) : List (Nat × α) := List.rec [] (fun x _ ih => bif memb x.1 ab then ih else x :: ih) L
noncomputable def wantT (T : Tr Value) (o : Oper) : Option Bool :=
  match o.guard with
  | none => some true
  | some (j, b) =>
    (match nth l j with
    | some oj =>
      (match oj.dst with
      | some d => (match tget T d with | .bool x => some (bif x then b else not b) | .tuple _ => some false | _ => none)
      | none => none)
    | none => none)
noncomputable def putT (dst : Option Tmp) (v : Value) (T : Tr Value) : Tr Value :=
  match dst with
  | some d => tput nt T d v
  | none => T
noncomputable def allIn (M : Mem) (bs : List Nat) : Bool := List.rec true (fun b _ ih => match M.get b with | some _ => ih | none => false) bs
noncomputable def light (s : RS) (i : Nat) (o : Oper) : Option RS :=
  match wantT l s.T o with
  | some true =>
    (match smS D (evO s.T) o.op s.H with
    | some (.val v) =>
      (match tch (evO s.T) o.op s.H with
      | [] => some ⟨putT nt o.dst v s.T, s.H, s.L, s.W⟩
      | b :: bs => bif allIn s.H (b :: bs) then some ⟨putT nt o.dst v s.T, s.H, s.L, (i, o, v) :: s.W⟩ else none)
    | some (.new ob f) =>
      (match tch (evO s.T) o.op s.H with
      | [] => bif Nat.blt s.H.next s.H.top then some ⟨putT nt o.dst (f s.H.next) s.T, ⟨s.H.t, Nat.succ s.H.next, s.H.top⟩, (i, s.H.next, ob) :: s.L, s.W⟩ else none
      | _ => none)
    | none => none)
  | some false => some ⟨putT nt o.dst undef s.T, s.H, s.L, s.W⟩
  | none => none
noncomputable def still (T : Tr Value) (M : Mem) (x : Nat × Oper × Value) : Bool :=
  (match smS D (evO T) x.2.1.op M with | some (.val v) => veq x.2.2 v | _ => false) && allIn M (tch (evO T) x.2.1.op M)
noncomputable def allStill (T : Tr Value) (M : Mem) (W : List (Nat × Oper × Value)) : Bool := List.rec true (fun x _ ih => bif still D T M x then ih else false) W
noncomputable def great (s : RS) (o : Oper) (ab : List Nat) : Option RS :=
  match wantT l s.T o with
  | some true =>
    (match one (evO s.T) o ⟨absT ab s.L s.H.t, s.H.next, s.H.top⟩ with
    | some (v, M') => bif allStill D (putT nt o.dst v s.T) M' (absL ab s.W) then some ⟨putT nt o.dst v s.T, M', absL ab s.L, absL ab s.W⟩ else none
    | none => none)
  | some false => some ⟨putT nt o.dst undef s.T, s.H, s.L, s.W⟩
  | none => none
noncomputable def plan (pl : List PStep) : RS → Option RS :=
  List.rec (fun s => some s) (fun p _ ih s =>
    match nth l p.i with
    | some o => (match (bif p.big then great D nt one l s o p.ab else light D nt l s p.i o) with | some s' => ih s' | none => none)
    | none => none) pl

/-! ### What must hold of a plan -/
def deps (o : Oper) : List Nat := (o.after.toList.filter (Region.binds .any)).map (·.on)
/-- what is done when these are -/
def clo : Nat → List Nat → List Nat
  | 0, ds => ds
  | n + 1, ds => ds ++ clo n (ds.flatMap fun d => match l[d]? with | some o => deps o | none => [])
end
noncomputable def chkOps (ops : Array Oper) (nt G : Nat) : Bool :=
  ops.toList.zipIdx.all fun (o, i) => o.op.operands.toList.all (fitO G nt) && (match o.dst with | some d => Nat.blt d nt | none => true) &&
    ops.toList.zipIdx.all fun (y, j) => match y.dst with
      | some d => (!(o.looksAt ops).contains d || (deps o).contains j) && (o.dst != some d || Nat.beq i j)
      | none => true
def chkPl (ops : Array Oper) : List Nat → List PStep → Bool
  | dn, [] => (List.range ops.size).all dn.contains
  | dn, p :: r => (match ops.toList[p.i]? with
    | some o => (deps o).all dn.contains && !dn.contains p.i &&
      (!p.big || (p.ab.all (clo ops.toList ops.size (deps o)).contains && r.all fun q => match ops.toList[q.i]? with | some oq => (deps oq).any fun d => !dn.contains d | none => false)) &&
      chkPl ops (p.i :: dn) r
    | none => false)
/-- what the first check says -/
structure OpsOk (ops : Array Oper) (nt G : Nat) : Prop where
  fit : ∀ (i : Nat) (o : Oper), ops[i]? = some o → ∀ x ∈ o.op.operands.toList, fitO G nt x = true
  dst : ∀ (i : Nat) (o : Oper) (d : Nat), ops[i]? = some o → o.dst = some d → d < nt
  look : ∀ (i : Nat) (o : Oper), ops[i]? = some o → ∀ d ∈ o.looksAt ops, ∀ (j : Nat) (y : Oper), ops[j]? = some y → y.dst = some d → j ∈ deps o
  one : ∀ (i : Nat) (o : Oper) (j : Nat) (y : Oper) (d : Nat), ops[i]? = some o → ops[j]? = some y → o.dst = some d → y.dst = some d → i = j
theorem zip_mem {ops : Array Oper} {i : Nat} {o : Oper} (h : ops[i]? = some o) : (o, i) ∈ ops.toList.zipIdx := by
  rw [List.mem_zipIdx_iff_getElem?]
  simpa using h
theorem chkOps_ok {ops : Array Oper} {nt G : Nat} (h : chkOps ops nt G = true) : OpsOk ops nt G := by
  unfold chkOps at h
  rw [List.all_eq_true] at h
  refine ⟨fun i o ho x hx => ?_, fun i o d ho hd => ?_, fun i o ho d hd j y hy hyd => ?_, fun i o j y d ho hy hod hyd => ?_⟩
  all_goals
    have := h _ (zip_mem ho)
    simp only [Bool.and_eq_true, List.all_eq_true] at this
    obtain ⟨⟨h1, h2⟩, h3⟩ := this
  · exact h1 x hx
  · rw [hd] at h2
    simpa [Nat.blt_eq] using h2
  · have := h3 _ (zip_mem hy)
    simp only [hyd, Bool.and_eq_true] at this
    have h4 := this.1
    have hc : (o.looksAt ops).contains d = true := by simpa using hd
    rw [hc] at h4
    simpa using h4
  · have := h3 _ (zip_mem hy)
    simp only [hyd, Bool.and_eq_true] at this
    have h4 := this.2
    rw [hod] at h4
    simpa using h4
end Go.Proofs.YtepmjghgnhklfaaGreatDoor.det
namespace Go.Proofs.YtepmjghgnhklfaaGreatDoor.det
open Go

section
variable {D : Dat} {P : Program} {ρ : Ren} {A : Nat → Prop} {M : Mem} {w : World} {nt : Nat}

theorem tget_put {T : Tr Value} {d : Nat} {v : Value} (hn : nt ≤ lim) (hd : d < nt) (t : Nat) : tget (tput nt T d v) t = if t = d then v else tget T t := by
  unfold tput
  have hb : Nat.blt d nt = true := by simp [Nat.blt_eq, hd]
  rw [hb, cond_true]
  unfold tget
  rw [Tr.get_set 64 _ _ _ _ (Nat.lt_trans (Nat.succ_lt_succ (Nat.lt_of_lt_of_le hd hn)) lim_lt)]
  by_cases e : t = d
  · rw [if_pos e, if_pos e]; rfl
  · rw [if_neg e, if_neg e]
theorem putT_same {T : Tr Value} {dst : Option Tmp} {v : Value} (hn : nt ≤ lim) {d : Nat} (h : dst = some d) (hd : d < nt) : tget (putT nt dst v T) d = v := by
  subst h
  show tget (tput nt T d v) d = v
  rw [tget_put hn hd, if_pos rfl]
theorem putT_other {T : Tr Value} {dst : Option Tmp} {v : Value} (hn : nt ≤ lim) (hd : ∀ d, dst = some d → d < nt) {t : Nat} (h : dst ≠ some t) : tget (putT nt dst v T) t = tget T t := by
  cases dst with
  | none => rfl
  | some d =>
    show tget (tput nt T d v) t = _
    rw [tget_put hn (hd d rfl), if_neg (fun e => h (by rw [e]))]
theorem smS_ev {ev ev' : Operand → Value} {op : Op} (h : ∀ x ∈ op.operands.toList, ev x = ev' x) : smS D ev op M = smS D ev' op M := by
  have hps : ∀ ps : Array (Nat × Operand), (∀ x ∈ (ps.toList.map (·.2)), ev x = ev' x) → (ps.toList.map fun p => (p.1, ev p.2)) = ps.toList.map fun p => (p.1, ev' p.2) := fun ps hp =>
    List.map_congr_left fun p hp2 => by rw [hp p.2 (List.mem_map.mpr ⟨p, hp2, rfl⟩)]
  have hopt : ∀ x : Option Operand, (∀ y ∈ x.toArray.toList, ev y = ev' y) → x.map ev = x.map ev' := fun x hx => by
    cases x with
    | none => rfl
    | some y => simp only [Option.map_some]; rw [hx y (by simp)]
  cases op <;> try rfl
  case build t ps => simp only [smS]; rw [hps ps (fun x hx => h x (by simpa [Op.operands] using hx))]
  case buildSlice t n ps => simp only [smS]; rw [hps ps (fun x hx => h x (by simpa [Op.operands] using hx))]
  case makeFunc fn first cap =>
    simp only [smS]
    have h1 : first.toList.map ev = first.toList.map ev' := List.map_congr_left fun x hx => h x (by simp [Op.operands]; simp at hx; exact Or.inl hx)
    have h2 : cap.toList.map ev = cap.toList.map ev' := List.map_congr_left fun x hx => h x (by simp [Op.operands]; simp at hx; exact Or.inr hx)
    rw [h1, h2]
  case makeMap t r =>
    cases r <;> rfl
  case slice t x lo hi mx =>
    simp only [smS]
    rw [h x (by simp [Op.operands]), hopt lo (fun y hy => h y (by simp [Op.operands] at hy ⊢; exact Or.inr (Or.inl hy))), hopt hi (fun y hy => h y (by simp [Op.operands] at hy ⊢; exact Or.inr (Or.inr (Or.inl hy)))), hopt mx (fun y hy => h y (by simp [Op.operands] at hy ⊢; exact Or.inr (Or.inr (Or.inr hy))))]
  case call c =>
    simp only [smS]
    cases hc : c.callee <;> try rfl
    rename_i b
    have hl : ∀ x ∈ c.args.toList, ev x = ev' x := fun x hx => h x (by simp [Op.operands, Call.operands, hc]; simpa using hx)
    have h1 : c.args.toList.map ev = c.args.toList.map ev' := List.map_congr_left hl
    cases ha : c.args.toList with
    | nil => cases b <;> rfl
    | cons x r =>
      rw [ha] at h1 hl
      have hx := hl x (by simp)
      cases r with
      | nil => cases b <;> first | rfl | (simp only [hx]; done) | (simp only [h1]; done)
      | cons y r => cases b <;> first | rfl | (simp only [h1]; done)
  all_goals
    simp only [smS]
    simp only [Op.operands] at h
    simp at h
    first
      | rw [h]
      | rw [h.1, h.2]
      | rw [h.1, h.2.1, h.2.2]
theorem tch_ev {ev ev' : Operand → Value} {op : Op} (h : ∀ x ∈ op.operands.toList, ev x = ev' x) : tch ev op M = tch ev' op M := by
  cases op <;> try rfl
  case load t a => simp only [tch]; rw [h a (by simp [Op.operands])]
  case convert s d x => simp only [tch]; rw [h x (by simp [Op.operands])]
  case lookup t x k c => simp only [tch]; rw [h x (by simp [Op.operands])]
  case range t x => simp only [tch]; rw [h x (by simp [Op.operands])]
  case entry x => simp only [tch]; rw [h x (by simp [Op.operands])]
  case call c =>
    simp only [tch]
    cases ha : c.args.toList with
    | nil => rfl
    | cons x r =>
      cases r with
      | nil =>
        have : ev x = ev' x := h x (by
          have : x ∈ c.args := by
            have : x ∈ c.args.toList := by rw [ha]; simp
            simpa using this
          simp only [Op.operands, Call.operands]
          split <;> simp [this])
        simp only [this]
      | cons _ _ => rfl
theorem tch_nil {ev : Operand → Value} {op : Op} {M1 M2 : Mem} (h : tch ev op M1 = []) : tch ev op M2 = [] := by
  cases op <;> first | exact h | skip
  case entry x =>
    simp only [tch] at h ⊢
    split at h
    · split at h <;> cases h
    · rfl
end
end Go.Proofs.YtepmjghgnhklfaaGreatDoor.det
namespace Go.Proofs.YtepmjghgnhklfaaGreatDoor.det
open Go

/-! ### Blocks that lie apart -/
/-- those of done operations -/
def loose (S : Nat → Bool) : List (Nat × Nat × CObj) → Nat → Option CObj
  | [], _ => none
  | x :: L, n => if x.2.1 = n ∧ S x.1 = true then some x.2.2 else loose S L n
structure Lok (L : List (Nat × Nat × CObj)) (g : Nat → Option CObj) : Prop where
  nm : ∀ x ∈ L, ∀ y ∈ L, x.2.1 = y.2.1 → x = y
  id : ∀ x ∈ L, ∀ y ∈ L, x.1 = y.1 → x = y
  away : ∀ x ∈ L, g x.2.1 = none
  small : ∀ x ∈ L, x.2.1 < lim
theorem Lok.tail {x : Nat × Nat × CObj} {L : List (Nat × Nat × CObj)} {g : Nat → Option CObj} (h : Lok (x :: L) g) : Lok L g :=
  ⟨fun a ha b hb => h.nm a (List.mem_cons_of_mem _ ha) b (List.mem_cons_of_mem _ hb), fun a ha b hb => h.id a (List.mem_cons_of_mem _ ha) b (List.mem_cons_of_mem _ hb), fun a ha => h.away a (List.mem_cons_of_mem _ ha), fun a ha => h.small a (List.mem_cons_of_mem _ ha)⟩
theorem loose_some {S : Nat → Bool} {n : Nat} {o : CObj} : ∀ {L : List (Nat × Nat × CObj)}, loose S L n = some o → ∃ i, (i, n, o) ∈ L ∧ S i = true
  | [], h => by cases h
  | x :: L, h => by
    unfold loose at h
    by_cases hc : x.2.1 = n ∧ S x.1 = true
    · rw [if_pos hc] at h
      injection h with h
      obtain ⟨i, m, o'⟩ := x
      exact ⟨i, by rw [← h, ← hc.1]; simp, hc.2⟩
    · rw [if_neg hc] at h
      obtain ⟨i, h1, h2⟩ := loose_some h
      exact ⟨i, List.mem_cons_of_mem _ h1, h2⟩
theorem loose_of {S : Nat → Bool} {g : Nat → Option CObj} {i n : Nat} {o : CObj} : ∀ {L : List (Nat × Nat × CObj)}, Lok L g → (i, n, o) ∈ L → S i = true → loose S L n = some o
  | [], _, h, _ => by cases h
  | x :: L, hL, h, hs => by
    unfold loose
    by_cases hc : x.2.1 = n ∧ S x.1 = true
    · rw [if_pos hc]
      have := hL.nm x (by simp) _ h hc.1
      rw [this]
    · rw [if_neg hc]
      rcases List.mem_cons.mp h with e | h1
      · subst e
        exact (hc ⟨rfl, hs⟩).elim
      · exact loose_of hL.tail h1 hs
theorem loose_iff {S : Nat → Bool} {g : Nat → Option CObj} {L : List (Nat × Nat × CObj)} (hL : Lok L g) {n : Nat} {o : CObj} : loose S L n = some o ↔ ∃ i, (i, n, o) ∈ L ∧ S i = true :=
  ⟨loose_some, fun ⟨_, h1, h2⟩ => loose_of hL h1 h2⟩
theorem absL_mem {α : Type} {ab : List Nat} {x : Nat × α} : ∀ {L : List (Nat × α)}, x ∈ absL ab L ↔ x ∈ L ∧ x.1 ∉ ab
  | [] => by simp [absL]
  | y :: L => by
    have e : absL ab (y :: L) = bif memb y.1 ab then absL ab L else y :: absL ab L := rfl
    rw [e]
    cases h : memb y.1 ab
    · rw [cond_false, List.mem_cons, List.mem_cons, absL_mem]
      constructor
      · rintro (h1 | h1)
        · exact ⟨Or.inl h1, by rw [h1]; exact memb_false h⟩
        · exact ⟨Or.inr h1.1, h1.2⟩
      · rintro ⟨h1 | h1, h2⟩
        · exact Or.inl h1
        · exact Or.inr ⟨h1, h2⟩
    · rw [cond_true, absL_mem, List.mem_cons]
      rw [memb_iff] at h
      constructor
      · rintro ⟨h1, h2⟩
        exact ⟨Or.inr h1, h2⟩
      · rintro ⟨h1 | h1, h2⟩
        · rw [h1] at h2; exact (h2 h).elim
        · exact ⟨h1, h2⟩
theorem absT_iff {ab : List Nat} {t : Tr CObj} {n : Nat} {o : CObj} : ∀ {L : List (Nat × Nat × CObj)}, Lok L t.get → ((absT ab L t).get n = some o ↔ (∃ i, (i, n, o) ∈ L ∧ i ∈ ab) ∨ t.get n = some o)
  | [], _ => by simp [absT]
  | x :: L, hL => by
    have e : absT ab (x :: L) t = bif memb x.1 ab then (absT ab L t).set 64 x.2.1 (some x.2.2) else absT ab L t := rfl
    rw [e]
    have ih := absT_iff (ab := ab) (n := n) (o := o) hL.tail
    cases h : memb x.1 ab
    · rw [cond_false, ih]
      have hx := memb_false h
      constructor
      · rintro (⟨i, h1, h2⟩ | h1)
        · exact Or.inl ⟨i, List.mem_cons_of_mem _ h1, h2⟩
        · exact Or.inr h1
      · rintro (⟨i, h1, h2⟩ | h1)
        · rcases List.mem_cons.mp h1 with e1 | h1
          · subst e1; exact (hx h2).elim
          · exact Or.inl ⟨i, h1, h2⟩
        · exact Or.inr h1
    · rw [memb_iff] at h
      have hs := hL.small x (by simp)
      rw [cond_true, Tr.get_set 64 _ _ _ _ (Nat.lt_trans (Nat.succ_lt_succ hs) lim_lt)]
      by_cases hn : n = x.2.1
      · rw [if_pos hn]
        constructor
        · intro h1
          injection h1 with h1
          obtain ⟨i, m, o'⟩ := x
          exact Or.inl ⟨i, by rw [hn, ← h1]; simp, h⟩
        · rintro (⟨i, h1, h2⟩ | h1)
          · have := hL.nm _ h1 x (by simp) hn
            rw [← this]
          · rw [hn, hL.away x (by simp)] at h1; cases h1
      · rw [if_neg hn, ih]
        constructor
        · rintro (⟨i, h1, h2⟩ | h1)
          · exact Or.inl ⟨i, List.mem_cons_of_mem _ h1, h2⟩
          · exact Or.inr h1
        · rintro (⟨i, h1, h2⟩ | h1)
          · rcases List.mem_cons.mp h1 with e1 | h1
            · subst e1; exact (hn rfl).elim
            · exact Or.inl ⟨i, h1, h2⟩
          · exact Or.inr h1
theorem absA_iff {t : Tr CObj} {n : Nat} {o : CObj} : ∀ {L : List (Nat × Nat × CObj)}, Lok L t.get → ((absA L t).get n = some o ↔ (∃ i, (i, n, o) ∈ L) ∨ t.get n = some o)
  | [], _ => by simp [absA]
  | x :: L, hL => by
    have e : absA (x :: L) t = (absA L t).set 64 x.2.1 (some x.2.2) := rfl
    rw [e]
    have ih := absA_iff (n := n) (o := o) hL.tail
    have hs := hL.small x (by simp)
    rw [Tr.get_set 64 _ _ _ _ (Nat.lt_trans (Nat.succ_lt_succ hs) lim_lt)]
    by_cases hn : n = x.2.1
    · rw [if_pos hn]
      constructor
      · intro h1
        injection h1 with h1
        obtain ⟨i, m, o'⟩ := x
        exact Or.inl ⟨i, by rw [hn, ← h1]; simp⟩
      · rintro (⟨i, h1⟩ | h1)
        · have := hL.nm _ h1 x (by simp) hn
          rw [← this]
        · rw [hn, hL.away x (by simp)] at h1; cases h1
    · rw [if_neg hn, ih]
      constructor
      · rintro (⟨i, h1⟩ | h1)
        · exact Or.inl ⟨i, List.mem_cons_of_mem _ h1⟩
        · exact Or.inr h1
      · rintro (⟨i, h1⟩ | h1)
        · rcases List.mem_cons.mp h1 with e1 | h1
          · subst e1; exact (hn rfl).elim
          · exact Or.inl ⟨i, h1⟩
        · exact Or.inr h1
theorem un_iff {g r : Nat → Option CObj} (hd : ∀ n o o', g n = some o → r n = some o' → False) {n : Nat} {o : CObj} : un g r n = some o ↔ g n = some o ∨ r n = some o := by
  constructor
  · intro h
    rcases un_some h with h1 | ⟨_, h1⟩
    · exact Or.inl h1
    · exact Or.inr h1
  · rintro (h | h)
    · exact un_left h
    · cases hg : g n with
      | none => rw [un_right hg]; exact h
      | some o' => exact (hd n o' o hg h).elim
theorem loose_apart {S : Nat → Bool} {g : Nat → Option CObj} {L : List (Nat × Nat × CObj)} (hL : Lok L g) (n : Nat) (o o' : CObj) (h1 : g n = some o) (h2 : loose S L n = some o') : False := by
  obtain ⟨i, h3, _⟩ := loose_some h2
  rw [hL.away _ h3] at h1
  cases h1
/-- blocks are taken in -/
theorem Lok.taken {ab : List Nat} {L : List (Nat × Nat × CObj)} {t : Tr CObj} (hL : Lok L t.get) : Lok (absL ab L) (absT ab L t).get := by
  refine ⟨fun x hx y hy => hL.nm x (absL_mem.mp hx).1 y (absL_mem.mp hy).1, fun x hx y hy => hL.id x (absL_mem.mp hx).1 y (absL_mem.mp hy).1, fun x hx => ?_, fun x hx => hL.small x (absL_mem.mp hx).1⟩
  obtain ⟨h1, h2⟩ := absL_mem.mp hx
  cases hg : (absT ab L t).get x.2.1 with
  | none => rfl
  | some o =>
    rcases (absT_iff hL).mp hg with ⟨i, h3, h4⟩ | h3
    · have := hL.nm _ h3 x h1 rfl
      rw [← this] at h2
      exact (h2 h4).elim
    · rw [hL.away x h1] at h3; cases h3
theorem taken_un {ab : List Nat} {L : List (Nat × Nat × CObj)} {t : Tr CObj} {S : Nat → Bool} (hL : Lok L t.get) (hS : ∀ i ∈ ab, S i = true) (n : Nat) : un (absT ab L t).get (loose S (absL ab L)) n = un t.get (loose S L) n := by
  apply Option.ext
  intro o
  rw [un_iff (loose_apart hL.taken), un_iff (loose_apart hL), absT_iff hL, loose_iff hL.taken, loose_iff hL]
  constructor
  · rintro ((⟨i, h1, h2⟩ | h1) | ⟨i, h1, h2⟩)
    · exact Or.inr ⟨i, h1, hS i h2⟩
    · exact Or.inl h1
    · exact Or.inr ⟨i, (absL_mem.mp h1).1, h2⟩
  · rintro (h1 | ⟨i, h1, h2⟩)
    · exact Or.inl (Or.inr h1)
    · by_cases hi : i ∈ ab
      · exact Or.inl (Or.inl ⟨i, h1, hi⟩)
      · exact Or.inr ⟨i, absL_mem.mpr ⟨h1, hi⟩, h2⟩
theorem all_un {L : List (Nat × Nat × CObj)} {t : Tr CObj} {S : Nat → Bool} (hL : Lok L t.get) (hS : ∀ x ∈ L, S x.1 = true) (n : Nat) : (absA L t).get n = un t.get (loose S L) n := by
  apply Option.ext
  intro o
  rw [un_iff (loose_apart hL), absA_iff hL, loose_iff hL]
  constructor
  · rintro (⟨i, h1⟩ | h1)
    · exact Or.inr ⟨i, h1, hS _ h1⟩
    · exact Or.inl h1
  · rintro (h1 | ⟨i, h1, _⟩)
    · exact Or.inr h1
    · exact Or.inl ⟨i, h1⟩
end Go.Proofs.YtepmjghgnhklfaaGreatDoor.det
namespace Go.Proofs.YtepmjghgnhklfaaGreatDoor.det
open Go

/-- an operation run on memory -/
structure OneOk (P : Program) (G : Nat) (one : (Operand → Value) → Oper → Mem → Option (Value × Mem)) : Prop where
  ok : ∀ {ev : Operand → Value} {o : Oper} {M M' : Mem} {v : Value}, one ev o M = some (v, M') → ∀ {ρ : Ren} {A : Nat → Prop} {w : World} {a : Act}, Rm P ρ A M w → GOK ρ A G → (∀ x ∈ o.op.operands.toList, Rv ρ A (ev x) (a.eval x)) →
    ∀ {F : Fence}, FenceOk P F → ∀ {K : Act → World → Prop} {Q : Exit → Act → World → Prop}, (∀ ρ' A' v' w', Rv ρ' A' v v' → St P ρ A M w ρ' A' M' w' → K (a.put o.dst v') w') → o.wpIn F 0 P a w K Q
structure Base (D : Dat) (P : Program) : Prop where
  ok : DatOk D P
  Z : DatZ D
  M : DatM P
  C : DatC D P

section
variable {D : Dat} {P : Program} {nt G : Nat} {one : (Operand → Value) → Oper → Mem → Option (Value × Mem)} {ops : Array Oper}
/-- a light operation that may still have to be done comes to what was reckoned -/
def Fact (D : Dat) (ops : Array Oper) (s : RS) (j : Nat) (o : Oper) : Prop :=
  (wantT ops.toList s.T o = some false ∧ (∀ x ∈ s.L, x.1 ≠ j) ∧ ∀ d, o.dst = some d → tget s.T d = undef) ∨
  (wantT ops.toList s.T o = some true ∧ (∀ x ∈ s.L, x.1 ≠ j) ∧ ∃ v, smS D (evO s.T) o.op s.H = some (.val v) ∧ (∀ d, o.dst = some d → tget s.T d = v) ∧ (tch (evO s.T) o.op s.H = [] ∨ (j, o, v) ∈ s.W) ∧ ∀ b ∈ tch (evO s.T) o.op s.H, ∃ x, s.H.get b = some x) ∨
  (wantT ops.toList s.T o = some true ∧ ∃ ob f n, smS D (evO s.T) o.op s.H = some (.new ob f) ∧ tch (evO s.T) o.op s.H = [] ∧ (j, n, ob) ∈ s.L ∧ ∀ d, o.dst = some d → tget s.T d = f n)
/-- what is between two operations: dn were reckoned, S of them are done -/
structure Inv (D : Dat) (P : Program) (ops : Array Oper) (nt : Nat) (T0 : Tr Value) (ρ0 : Ren) (A0 : Nat → Prop) (g0 : Nat → Option CObj) (k0 e0 : Nat) (w0 : World) (df : List Deferred) (s : RS) (dn : List Nat) (S : Nat → Bool) (a : Act) (w : World) : Prop where
  sub : ∀ i, S i = true → i ∈ dn
  dep : ∀ i ∈ dn, ∃ o, ops[i]? = some o ∧ ∀ d ∈ deps o, d ∈ dn
  clo : ∀ (i : Nat) (o : Oper), S i = true → ops[i]? = some o → ∀ d ∈ deps o, S d = true
  size : a.tmps.size = nt
  same : ∀ t, (∀ i ∈ dn, ∀ o, ops[i]? = some o → o.dst ≠ some t) → tget s.T t = tget T0 t
  st : ∃ ρ A, StF P ρ0 A0 g0 k0 e0 w0 ρ A (un s.H.get (loose S s.L)) s.H.next s.H.top w ∧
    (∀ t, t < nt → (∃ i ∈ dn, S i = false ∧ ∃ o, ops[i]? = some o ∧ o.dst = some t) → Rv ρ A (tget T0 t) (a.tmps.getD t undef)) ∧
    (∀ t, t < nt → ¬ (∃ i ∈ dn, S i = false ∧ ∃ o, ops[i]? = some o ∧ o.dst = some t) → Rv ρ A (tget s.T t) (a.tmps.getD t undef)) ∧
    (∀ x ∈ s.L, S x.1 = false → ¬ A x.2.1)
  fact : ∀ j ∈ dn, S j = false → ∀ o, ops[j]? = some o → Fact D ops s j o
  L : Lok s.L s.H.t.get
  Ln : ∀ x ∈ s.L, k0 ≤ x.2.1 ∧ x.2.1 < s.H.next ∧ x.2.1 < s.H.top
  Ld : ∀ x ∈ s.L, x.1 ∈ dn
  df : a.defers = df

variable {T0 : Tr Value} {ρ0 : Ren} {A0 : Nat → Prop} {g0 : Nat → Option CObj} {k0 e0 : Nat} {w0 : World} {df : List Deferred} {s s' : RS} {dn : List Nat} {S : Nat → Bool} {a : Act} {w : World}

theorem tmp_looks {o : Oper} {t : Nat} (h : Operand.tmp t ∈ o.op.operands.toList) : t ∈ o.looksAt ops := by
  unfold Oper.looksAt
  refine List.mem_append_left _ (List.mem_filterMap.mpr ⟨.tmp t, h, rfl⟩)
theorem guard_looks {o oj : Oper} {j d : Nat} {b : Bool} (hg : o.guard = some (j, b)) (hj : ops[j]? = some oj) (hd : oj.dst = some d) : d ∈ o.looksAt ops := by
  unfold Oper.looksAt
  refine List.mem_append_right _ ?_
  rw [hg]
  simp [hj, hd]
/-- nobody of those that are still to be done writes what this one looks at -/
theorem Inv.clear (K : OpsOk ops nt G) (I : Inv D P ops nt T0 ρ0 A0 g0 k0 e0 w0 df s dn S a w) {i : Nat} {o : Oper} (ho : ops[i]? = some o) (hd : ∀ d ∈ deps o, S d = true) {t : Nat} (ht : t ∈ o.looksAt ops) : ¬ (∃ j ∈ dn, S j = false ∧ ∃ y, ops[j]? = some y ∧ y.dst = some t) := by
  rintro ⟨j, _, h2, y, h3, h4⟩
  rw [hd j (K.look i o ho t ht j y h3 h4)] at h2
  cases h2
theorem want_ok {ρ : Ren} {A : Nat → Prop} {T : Tr Value} {o : Oper} {b : Bool} (K : OpsOk ops nt G) (hs : a.tmps.size = nt) (hw : wantT ops.toList T o = some b) (ht : ∀ t ∈ o.looksAt ops, t < nt → Rv ρ A (tget T t) (a.tmps.getD t undef)) : Region.wanted o (yielded ops a.tmps) = b := by
  unfold wantT at hw
  unfold Region.wanted
  cases hg : o.guard with
  | none => rw [hg] at hw; cases hw; rfl
  | some p =>
    obtain ⟨j, c⟩ := p
    rw [hg] at hw
    simp only at hw ⊢
    rw [nth_eq, Array.getElem?_toList] at hw
    cases hj : ops[j]? with
    | none => rw [hj] at hw; cases hw
    | some oj =>
      rw [hj] at hw
      simp only at hw
      cases hd : oj.dst with
      | none => rw [hd] at hw; cases hw
      | some d =>
        rw [hd] at hw
        simp only at hw
        have hlt := K.dst j oj d hj hd
        have hv := ht d (guard_looks hg hj hd) hlt
        have hy : a.tmps[d]? = some (a.tmps.getD d undef) := by
          rw [Array.getD_eq_getD_getElem?, Array.getElem?_eq_getElem (by omega)]
          rfl
        have hyd : yielded ops a.tmps j = match a.tmps.getD d undef with | .bool b => some b | _ => none := by
          unfold yielded
          rw [hj, Option.bind_some, hd, Option.bind_some, hy]
          generalize a.tmps.getD d undef = q
          cases q <;> rfl
        rw [hyd]
        generalize a.tmps.getD d undef = q at hv
        split at hw
        · rename_i x hx
          rw [hx] at hv
          cases hv
          injection hw with hw
          subst hw
          cases x <;> cases c <;> rfl
        · rename_i x hx
          rw [hx] at hv
          cases hv
          cases hw
          rfl
        · cases hw
theorem want_ev {T T' : Tr Value} {o : Oper} (h : ∀ t ∈ o.looksAt ops, tget T t = tget T' t) : wantT ops.toList T o = wantT ops.toList T' o := by
  unfold wantT
  cases hg : o.guard with
  | none => rfl
  | some p =>
    obtain ⟨j, c⟩ := p
    simp only
    rw [nth_eq, Array.getElem?_toList]
    cases hj : ops[j]? with
    | none => rfl
    | some oj =>
      simp only
      cases hd : oj.dst with
      | none => rfl
      | some d =>
        simp only
        rw [h d (guard_looks hg hj hd)]
theorem ev_ev {T T' : Tr Value} {o : Oper} (h : ∀ t ∈ o.looksAt ops, tget T t = tget T' t) : ∀ x ∈ o.op.operands.toList, evO T x = evO T' x := by
  intro x hx
  cases x with
  | tmp t => exact h t (tmp_looks hx)
  | const v => rfl
  | global g => rfl
  | func f => rfl
theorem Inv.ev (K : OpsOk ops nt G) (I : Inv D P ops nt T0 ρ0 A0 g0 k0 e0 w0 df s dn S a w) {ρ : Ren} {A : Nat → Prop} (hG : GOK ρ A G) (hB : ∀ t, t < nt → ¬ (∃ i ∈ dn, S i = false ∧ ∃ o, ops[i]? = some o ∧ o.dst = some t) → Rv ρ A (tget s.T t) (a.tmps.getD t undef)) {i : Nat} {o : Oper} (ho : ops[i]? = some o) (hd : ∀ d ∈ deps o, S d = true) :
    ∀ x ∈ o.op.operands.toList, Rv ρ A (evO s.T x) (a.eval x) := by
  intro x hx
  have hf := K.fit i o ho x hx
  refine evO_ok hG hf (fun t ht => ?_)
  subst ht
  refine hB t ?_ (I.clear K ho hd (tmp_looks hx))
  simpa [fitO, Nat.blt_eq] using hf
theorem Inv.want (K : OpsOk ops nt G) (I : Inv D P ops nt T0 ρ0 A0 g0 k0 e0 w0 df s dn S a w) {i : Nat} {o : Oper} {b : Bool} (ho : ops[i]? = some o) (hd : ∀ d ∈ deps o, S d = true) (hw : wantT ops.toList s.T o = some b) : Region.wanted o (yielded ops a.tmps) = b := by
  obtain ⟨ρ, A, _, _, hB, _⟩ := I.st
  exact want_ok K I.size hw (fun t ht hlt => hB t hlt (I.clear K ho hd ht))
end
end Go.Proofs.YtepmjghgnhklfaaGreatDoor.det
namespace Go.Proofs.YtepmjghgnhklfaaGreatDoor.det
open Go

section
variable {D : Dat} {P : Program} {nt G : Nat} {one : (Operand → Value) → Oper → Mem → Option (Value × Mem)} {ops : Array Oper}
variable {T0 : Tr Value} {ρ0 : Ren} {A0 : Nat → Prop} {g0 : Nat → Option CObj} {k0 e0 : Nat} {w0 : World} {df : List Deferred} {s s' : RS} {dn : List Nat} {S : Nat → Bool} {a : Act} {w : World}

theorem tch_loc {ev : Operand → Value} {op : Op} {M1 M2 : Mem} (h : M1.get = M2.get) : tch ev op M1 = tch ev op M2 := by
  cases op <;> try rfl
  simp only [tch, h]
theorem Fact.keep {j : Nat} {o : Oper} (h : Fact D ops s j o) (h1 : ∀ t ∈ o.looksAt ops, tget s'.T t = tget s.T t) (h2 : ∀ d, o.dst = some d → tget s'.T d = tget s.T d) (hH : s'.H.get = s.H.get) (hL : ∀ x ∈ s.L, x ∈ s'.L) (hL2 : ∀ x ∈ s'.L, x ∈ s.L ∨ x.1 ≠ j) (hW : ∀ x ∈ s.W, x ∈ s'.W) : Fact D ops s' j o := by
  have hLj : (∀ x ∈ s.L, x.1 ≠ j) → ∀ x ∈ s'.L, x.1 ≠ j := fun h x hx => (hL2 x hx).elim (h x) id
  have hw : wantT ops.toList s'.T o = wantT ops.toList s.T o := want_ev h1
  have he := ev_ev h1
  have hs : smS D (evO s'.T) o.op s'.H = smS D (evO s.T) o.op s.H := (smS_ev he).trans (smS_loc (fun b _ => by rw [hH]))
  have ht : tch (evO s'.T) o.op s'.H = tch (evO s.T) o.op s.H := (tch_ev he).trans (tch_loc hH)
  unfold Fact
  rw [hw, hs, ht, hH]
  rcases h with ⟨q1, q0, q2⟩ | ⟨q1, q0, v, q2, q3, q4, q5⟩ | ⟨q1, ob, f, n, q2, q3, q4, q5⟩
  · exact Or.inl ⟨q1, hLj q0, fun d hd => by rw [h2 d hd]; exact q2 d hd⟩
  · exact Or.inr (Or.inl ⟨q1, hLj q0, v, q2, fun d hd => by rw [h2 d hd]; exact q3 d hd, q4.imp id (hW _), q5⟩)
  · exact Or.inr (Or.inr ⟨q1, ob, f, n, q2, q3, hL _ q4, fun d hd => by rw [h2 d hd]; exact q5 d hd⟩)
/-- one more is reckoned; nothing is done -/
theorem Inv.grow (K : OpsOk ops nt G) (I : Inv D P ops nt T0 ρ0 A0 g0 k0 e0 w0 df s dn S a w) {i : Nat} {o : Oper} (ho : ops[i]? = some o) (hdn : ∀ d ∈ deps o, d ∈ dn) (hni : i ∉ dn) (hT : ∀ t, o.dst ≠ some t → tget s'.T t = tget s.T t) (hHt : s'.H.t = s.H.t) (hHe : s'.H.top = s.H.top) (hHn : s.H.next ≤ s'.H.next)
    (hL : s'.L = s.L ∨ ∃ ob, s'.L = (i, s.H.next, ob) :: s.L ∧ s.H.next < s.H.top ∧ s'.H.next = s.H.next + 1) (hW : ∀ x ∈ s.W, x ∈ s'.W) (hf : Fact D ops s' i o) : Inv D P ops nt T0 ρ0 A0 g0 k0 e0 w0 df s' (i :: dn) S a w := by
  have hSi : S i = false := by
    cases h : S i with
    | false => rfl
    | true => exact (hni (I.sub i h)).elim
  have hHg : s'.H.get = s.H.get := by
    funext n
    show s'.H.t.get n = s.H.t.get n
    rw [hHt]
  have hLs : ∀ x ∈ s.L, x ∈ s'.L := fun x hx => by
    rcases hL with e | ⟨ob, e, _⟩
    · rw [e]; exact hx
    · rw [e]; exact List.mem_cons_of_mem _ hx
  have hls : ∀ n, loose S s'.L n = loose S s.L n := fun n => by
    rcases hL with e | ⟨ob, e, _⟩
    · rw [e]
    · rw [e]
      show (if s.H.next = n ∧ S i = true then _ else loose S s.L n) = _
      rw [if_neg (fun h => by rw [hSi] at h; cases h.2)]
  have hdst : ∀ j ∈ dn, ∀ oj, ops[j]? = some oj → ∀ t, oj.dst = some t → o.dst ≠ some t := fun j hj oj hoj t ht h => by
    have := K.one i o j oj t ho hoj h ht
    subst this
    exact hni hj
  obtain ⟨ρ, A, hst, hA, hB, hnm⟩ := I.st
  have hnx : s.H.next < s.H.top → ¬ A s.H.next := fun hl h => by
    have := hst.mem.sub _ h
    omega
  refine ⟨fun j hj => List.mem_cons_of_mem _ (I.sub j hj), fun j hj => ?_, I.clo, I.size, fun t ht => ?_, ⟨ρ, A, ?_, fun t ht h => ?_, fun t ht h => ?_, fun x hx hSx => ?_⟩, fun j hj hSj oj hoj => ?_, ?_, fun x hx => ?_, fun x hx => ?_, I.df⟩
  · rcases List.mem_cons.mp hj with rfl | hj
    · exact ⟨o, ho, fun d hd => List.mem_cons_of_mem _ (hdn d hd)⟩
    · obtain ⟨oj, h1, h2⟩ := I.dep j hj
      exact ⟨oj, h1, fun d hd => List.mem_cons_of_mem _ (h2 d hd)⟩
  · rw [hT t (fun h => ht i (by simp) o ho h)]
    exact I.same t (fun j hj oj hoj => ht j (List.mem_cons_of_mem _ hj) oj hoj)
  · rw [hHe]
    refine hst.cong (fun n => ?_) hHn
    unfold un
    rw [hHg, hls]
  · by_cases hex : ∃ j ∈ dn, S j = false ∧ ∃ y, ops[j]? = some y ∧ y.dst = some t
    · exact hA t ht hex
    · obtain ⟨j, h1, h2, y, h3, h4⟩ := h
      rcases List.mem_cons.mp h1 with rfl | h1
      · have := hB t ht hex
        rw [ho] at h3
        injection h3 with h3
        subst h3
        rwa [I.same t (fun j' hj' oj hoj hd => hdst j' hj' oj hoj t hd h4)] at this
      · exact (hex ⟨j, h1, h2, y, h3, h4⟩).elim
  · rw [hT t (fun hd => h ⟨i, by simp, hSi, o, ho, hd⟩)]
    exact hB t ht (fun ⟨j, h1, h2⟩ => h ⟨j, List.mem_cons_of_mem _ h1, h2⟩)
  · rcases hL with e | ⟨ob, e, h1, h2⟩
    · rw [e] at hx; exact hnm x hx hSx
    · rw [e] at hx
      rcases List.mem_cons.mp hx with rfl | hx
      · exact hnx h1
      · exact hnm x hx hSx
  · rcases List.mem_cons.mp hj with rfl | hj
    · rw [ho] at hoj
      injection hoj with hoj
      subst hoj
      exact hf
    · refine (I.fact j hj hSj oj hoj).keep (fun t ht => hT t (fun hd => ?_)) (fun d hd => hT d (hdst j hj oj hoj d hd)) hHg hLs (fun x hx => ?_) hW
      rotate_left
      · rcases hL with e | ⟨ob, e, _⟩
        · rw [e] at hx; exact Or.inl hx
        · rw [e] at hx
          rcases List.mem_cons.mp hx with rfl | hx
          · exact Or.inr (fun e => hni (by simp only at e; rw [e]; exact hj))
          · exact Or.inl hx
      obtain ⟨oj', h1, h2⟩ := I.dep j hj
      rw [hoj] at h1
      injection h1 with h1
      subst h1
      exact hni (h2 i (K.look j oj hoj t ht i o ho hd))
  · rw [hHt]
    rcases hL with e | ⟨ob, e, h1, h2⟩
    · rw [e]; exact I.L
    · rw [e]
      refine ⟨fun x hx y hy hxy => ?_, fun x hx y hy hxy => ?_, fun x hx => ?_, fun x hx => ?_⟩
      · rcases List.mem_cons.mp hx with rfl | hx <;> rcases List.mem_cons.mp hy with rfl | hy
        · rfl
        · have := (I.Ln y hy).2.1
          simp only at hxy
          omega
        · have := (I.Ln x hx).2.1
          simp only at hxy
          omega
        · exact I.L.nm x hx y hy hxy
      · rcases List.mem_cons.mp hx with rfl | hx <;> rcases List.mem_cons.mp hy with rfl | hy
        · rfl
        · exact (hni (by simp only at hxy; rw [hxy]; exact I.Ld y hy)).elim
        · exact (hni (by simp only at hxy; rw [← hxy]; exact I.Ld x hx)).elim
        · exact I.L.id x hx y hy hxy
      · rcases List.mem_cons.mp hx with rfl | hx
        · cases hg : s.H.t.get s.H.next with
          | none => rfl
          | some x => exact (hnx h1 (hst.mem.live s.H.next x (un_left hg))).elim
        · exact I.L.away x hx
      · rcases List.mem_cons.mp hx with rfl | hx
        · exact Nat.lt_of_lt_of_le h1 hst.mem.lim
        · exact I.L.small x hx
  · rw [hHe]
    rcases hL with e | ⟨ob, e, h1, h2⟩
    · rw [e] at hx
      have := I.Ln x hx
      omega
    · rw [e] at hx
      rcases List.mem_cons.mp hx with rfl | hx
      · have := hst.next
        simp only
        omega
      · have := I.Ln x hx
        omega
  · rcases hL with e | ⟨ob, e, h1, h2⟩
    · rw [e] at hx; exact List.mem_cons_of_mem _ (I.Ld x hx)
    · rw [e] at hx
      rcases List.mem_cons.mp hx with rfl | hx
      · simp
      · exact List.mem_cons_of_mem _ (I.Ld x hx)
theorem allIn_mem {M : Mem} : ∀ {bs : List Nat}, allIn M bs = true → ∀ b ∈ bs, ∃ x, M.get b = some x
  | [], _, b, hb => by cases hb
  | c :: bs, h, b, hb => by
    have e : allIn M (c :: bs) = match M.get c with | some _ => allIn M bs | none => false := rfl
    rw [e] at h
    cases hc : M.get c with
    | none => rw [hc] at h; cases h
    | some x =>
      rw [hc] at h
      rcases List.mem_cons.mp hb with rfl | hb
      · exact ⟨x, hc⟩
      · exact allIn_mem h b hb
/-- a light one is reckoned -/
theorem Inv.light (K : OpsOk ops nt G) (hn : nt ≤ lim) (I : Inv D P ops nt T0 ρ0 A0 g0 k0 e0 w0 df s dn S a w) {i : Nat} {o : Oper} (ho : ops[i]? = some o) (hdn : ∀ d ∈ deps o, d ∈ dn) (hni : i ∉ dn) (hs : light D nt ops.toList s i o = some s') : Inv D P ops nt T0 ρ0 A0 g0 k0 e0 w0 df s' (i :: dn) S a w := by
  have hdl : ∀ d, o.dst = some d → d < nt := fun d hd => K.dst i o d ho hd
  have hown : ∀ t ∈ o.looksAt ops, o.dst ≠ some t := fun t ht hd => hni (hdn i (K.look i o ho t ht i o ho hd))
  have hTl : ∀ v, ∀ t ∈ o.looksAt ops, tget (putT nt o.dst v s.T) t = tget s.T t := fun v t ht => putT_other hn hdl (hown t ht)
  have hLi : ∀ x ∈ s.L, x.1 ≠ i := fun x hx e => hni (by rw [← e]; exact I.Ld x hx)
  unfold det.light at hs
  split at hs
  · rename_i hw
    split at hs
    · rename_i v hv
      split at hs
      · rename_i ht
        injection hs with hs
        subst hs
        refine I.grow K ho hdn hni (fun t ht => putT_other hn hdl ht) rfl rfl (Nat.le_refl _) (Or.inl rfl) (fun _ h => h) ?_
        refine Or.inr (Or.inl ⟨(want_ev (hTl v)).trans hw, hLi, v, (smS_ev (ev_ev (hTl v))).trans hv, fun d hd => putT_same hn hd (hdl d hd), Or.inl ((tch_ev (ev_ev (hTl v))).trans ht), fun b hb => ?_⟩)
        rw [(tch_ev (ev_ev (hTl v))).trans ht] at hb
        cases hb
      · rename_i b bs ht
        cases hall : allIn s.H (b :: bs) <;> rw [hall] at hs
        · cases hs
        · injection hs with hs
          subst hs
          refine I.grow K ho hdn hni (fun t ht => putT_other hn hdl ht) rfl rfl (Nat.le_refl _) (Or.inl rfl) (fun _ h => List.mem_cons_of_mem _ h) ?_
          refine Or.inr (Or.inl ⟨(want_ev (hTl v)).trans hw, hLi, v, (smS_ev (ev_ev (hTl v))).trans hv, fun d hd => putT_same hn hd (hdl d hd), Or.inr (by simp), fun b hb => ?_⟩)
          rw [(tch_ev (ev_ev (hTl v))).trans ht] at hb
          exact allIn_mem hall b hb
    · rename_i ob f hv
      split at hs
      · rename_i ht
        cases hl : Nat.blt s.H.next s.H.top <;> rw [hl] at hs
        · cases hs
        · rw [Nat.blt_eq] at hl
          injection hs with hs
          subst hs
          refine I.grow K ho hdn hni (fun t ht => putT_other hn hdl ht) rfl rfl (Nat.le_succ _) (Or.inr ⟨ob, rfl, hl, rfl⟩) (fun _ h => h) ?_
          have hv' : ∀ v', smS D (evO (putT nt o.dst v' s.T)) o.op ⟨s.H.t, Nat.succ s.H.next, s.H.top⟩ = some (.new ob f) := fun v' => ((smS_ev (ev_ev (hTl v'))).trans (smS_loc (fun _ _ => rfl))).trans hv
          exact Or.inr (Or.inr ⟨(want_ev (hTl _)).trans hw, ob, f, s.H.next, hv' _, ((tch_ev (ev_ev (hTl _))).trans (tch_loc rfl)).trans ht, by simp, fun d hd => putT_same hn hd (hdl d hd)⟩)
      · cases hs
    · cases hs
  · rename_i hw
    injection hs with hs
    subst hs
    refine I.grow K ho hdn hni (fun t ht => putT_other hn hdl ht) rfl rfl (Nat.le_refl _) (Or.inl rfl) (fun _ h => h) ?_
    exact Or.inl ⟨(want_ev (hTl _)).trans hw, hLi, fun d hd => putT_same hn hd (hdl d hd)⟩
  · cases hs
end
end Go.Proofs.YtepmjghgnhklfaaGreatDoor.det
namespace Go.Proofs.YtepmjghgnhklfaaGreatDoor.det
open Go

section
variable {D : Dat} {P : Program} {nt G : Nat} {one : (Operand → Value) → Oper → Mem → Option (Value × Mem)} {ops : Array Oper}
variable {T0 : Tr Value} {ρ0 : Ren} {A0 : Nat → Prop} {g0 : Nat → Option CObj} {k0 e0 : Nat} {w0 : World} {df : List Deferred} {s s' : RS} {dn : List Nat} {S : Nat → Bool} {a : Act} {w : World} {F : Fence}

/-- one more is done -/
def plus (S : Nat → Bool) (j : Nat) : Nat → Bool := fun i => S i || Nat.beq i j
theorem plus_false {j i : Nat} (h : plus S j i = false) : S i = false ∧ i ≠ j := by
  unfold plus at h
  rw [Bool.or_eq_false_iff] at h
  exact ⟨h.1, fun e => by subst e; simp at h⟩
theorem plus_self {j : Nat} : plus S j j = true := by simp [plus]
theorem plus_old {j i : Nat} (h : S i = true) : plus S j i = true := by simp [plus, h]
theorem plus_true {j i : Nat} (h : plus S j i = true) : S i = true ∨ i = j := by
  unfold plus at h
  rw [Bool.or_eq_true, Nat.beq_eq] at h
  exact h
theorem put_other {dst : Option Tmp} {v : Value} {t : Nat} (h : dst ≠ some t) : (a.put dst v).tmps.getD t undef = a.tmps.getD t undef := by
  cases dst with
  | none => rfl
  | some d =>
    have hne : d ≠ t := fun e => h (by rw [e])
    show (a.tmps.setIfInBounds d v).getD t undef = _
    rw [Array.getD_eq_getD_getElem?, Array.getElem?_setIfInBounds_ne hne, ← Array.getD_eq_getD_getElem?]
theorem put_same {dst : Option Tmp} {v : Value} {t : Nat} (h : dst = some t) (ht : t < a.tmps.size) : (a.put dst v).tmps.getD t undef = v := by
  subst h
  show (a.tmps.setIfInBounds t v).getD t undef = v
  rw [Array.getD_eq_getD_getElem?]
  simp [ht]
theorem put_size {dst : Option Tmp} {v : Value} : (a.put dst v).tmps.size = a.tmps.size := by
  cases dst with
  | none => rfl
  | some d => simp [Act.put]
theorem put_defers {dst : Option Tmp} {v : Value} : (a.put dst v).defers = a.defers := by cases dst <;> rfl
/-- one that was reckoned is done -/
theorem Inv.done (K : OpsOk ops nt G) (I : Inv D P ops nt T0 ρ0 A0 g0 k0 e0 w0 df s dn S a w) {j : Nat} {o : Oper} (hj : j ∈ dn) (ho : ops[j]? = some o) (hd : ∀ d ∈ deps o, S d = true) {ρ ρ' : Ren} {A A' : Nat → Prop} {v' : Value} {w' : World}
    (hst : StF P ρ0 A0 g0 k0 e0 w0 ρ' A' (un s.H.get (loose (plus S j) s.L)) s.H.next s.H.top w') (ag : ∀ n, A n → ρ' n = ρ n) (up : ∀ n, A n → A' n)
    (hA : ∀ t, t < nt → (∃ i ∈ dn, S i = false ∧ ∃ o, ops[i]? = some o ∧ o.dst = some t) → Rv ρ A (tget T0 t) (a.tmps.getD t undef))
    (hB : ∀ t, t < nt → ¬ (∃ i ∈ dn, S i = false ∧ ∃ o, ops[i]? = some o ∧ o.dst = some t) → Rv ρ A (tget s.T t) (a.tmps.getD t undef))
    (hnm : ∀ x ∈ s.L, plus S j x.1 = false → ¬ A' x.2.1) (hv : ∀ d, o.dst = some d → Rv ρ' A' (tget s.T d) v') : Inv D P ops nt T0 ρ0 A0 g0 k0 e0 w0 df s dn (plus S j) (a.put o.dst v') w' := by
  refine ⟨fun i hi => ?_, I.dep, fun i oi hi hoi d hdi => ?_, by rw [put_size]; exact I.size, I.same, ⟨ρ', A', hst, fun t ht h => ?_, fun t ht h => ?_, hnm⟩, fun i hi hSi oi hoi => I.fact i hi (plus_false hSi).1 oi hoi, I.L, I.Ln, I.Ld, by rw [put_defers]; exact I.df⟩
  · rcases plus_true hi with h | rfl
    · exact I.sub i h
    · exact hj
  · rcases plus_true hi with h | rfl
    · exact plus_old (I.clo i oi h hoi d hdi)
    · rw [ho] at hoi
      injection hoi with hoi
      subst hoi
      exact plus_old (hd d hdi)
  · obtain ⟨i, h1, h2, y, h3, h4⟩ := h
    obtain ⟨h5, h6⟩ := plus_false h2
    rw [put_other (fun e => h6 (K.one i y j o t h3 ho h4 e))]
    exact (hA t ht ⟨i, h1, h5, y, h3, h4⟩).up up ag
  · by_cases hdt : o.dst = some t
    · rw [put_same hdt (by rw [I.size]; exact ht)]
      exact hv t hdt
    · rw [put_other hdt]
      refine (hB t ht (fun ⟨i, h1, h2, y, h3, h4⟩ => h ⟨i, h1, ?_, y, h3, h4⟩)).up up ag
      have hne : i ≠ j := fun e => by
        subst e
        rw [ho] at h3
        injection h3 with h3
        subst h3
        exact hdt h4
      unfold plus
      rw [h2, Bool.false_or]
      cases hb : Nat.beq i j with
      | false => rfl
      | true => exact (hne (Nat.eq_of_beq_eq_true hb)).elim
theorem wpOpIn_of (hF : FenceOk P F) {i : Nat} {o : Oper} {K : Act → World → Prop} {Q : Exit → Act → World → Prop} (ho : ops[i]? = some o) (h : Region.wanted o (yielded ops a.tmps) = true → o.wpIn F 0 P a w K Q) (h2 : Region.wanted o (yielded ops a.tmps) = false → K (a.put o.dst undef) w) : wpOpIn F 0 P ops Q i K a w := by
  unfold wpOpIn
  simp only [ho]
  by_cases hw : Region.wanted o (yielded ops a.tmps) = true
  · rw [if_pos hw]; exact h hw
  · rw [if_neg hw]; exact ⟨fun _ _ => hF.fn _, h2 (by simpa using hw)⟩
theorem loose_plus {g : Nat → Option CObj} {L : List (Nat × Nat × CObj)} (hL : Lok L g) {j : Nat} (hj : ∀ x ∈ L, x.1 = j → False) (n : Nat) : loose (plus S j) L n = loose S L n := by
  apply Option.ext
  intro o
  rw [loose_iff hL, loose_iff hL]
  constructor
  · rintro ⟨i, h1, h2⟩
    rcases plus_true h2 with h3 | rfl
    · exact ⟨i, h1, h3⟩
    · exact (hj _ h1 rfl).elim
  · rintro ⟨i, h1, h2⟩
    exact ⟨i, h1, plus_old h2⟩
/-- a light one is done -/
theorem Inv.do_light (hF : FenceOk P F) (B : Base D P) (K : OpsOk ops nt G) (hG : GOK ρ0 A0 G) (I : Inv D P ops nt T0 ρ0 A0 g0 k0 e0 w0 df s dn S a w) {j : Nat} {o : Oper} (hj : j ∈ dn) (hSj : S j = false) (ho : ops[j]? = some o) (hd : ∀ d ∈ deps o, S d = true) {Q : Exit → Act → World → Prop} :
    wpOpIn F 0 P ops Q j (Inv D P ops nt T0 ρ0 A0 g0 k0 e0 w0 df s dn (plus S j)) a w := by
  obtain ⟨ρ, A, hst, hA, hB, hnm⟩ := I.st
  have hGk := hst.gok hG
  have hEv := I.ev K hGk hB ho hd
  have hM : Rm P ρ A s.H w := hst.mem.sub2 (fun n o hn => un_left hn)
  refine wpOpIn_of hF ho (fun hw => ?_) (fun hw => ?_)
  · rcases I.fact j hj hSj o ho with ⟨q1, _⟩ | ⟨_, q0, v, q2, q3, _, _⟩ | ⟨_, ob, f, n, q2, q3, q4, q5⟩
    · have := I.want K ho hd q1
      rw [hw] at this
      cases this
    · have hop : opS D (evO s.T) o.op s.H = some (v, s.H) := smS_opS q2
      refine (opS_ok B.ok B.Z B.M B.C hop hM hEv).wpIn hF (opS_nd hop) (fun ρ' A' v' w' hv hS => ?_)
      have hS2 := StF.beside (loose_apart (S := S) (g := s.H.get) I.L) hst.mem hS
      refine I.done K hj ho hd ((hst.trans hS2).cong (fun n => ?_) (Nat.le_refl _)) hS.agree hS.up hA hB (fun x hx hSx hAx => ?_) (fun d hdd => by rw [q3 d hdd]; exact hv)
      · unfold un
        rw [loose_plus I.L (fun x hx e => q0 x hx e)]
      · rcases hS.fresh _ hAx with h1 | h1
        · exact hnm x hx (plus_false hSx).1 h1
        · have := (I.Ln x hx).2.1
          omega
    · -- a new block, under its own name
      have hnn := I.Ln _ q4
      simp only at hnn
      have hnA : ¬ A n := hnm _ q4 hSj
      have hnl : n < lim := I.L.small _ q4
      have hM1 : Rm P ρ A ⟨s.H.t, n, n + 1⟩ w := by
        refine ⟨hM.inj, hM.obj, hM.live, fun m hm => ?_, hM.small, hnl⟩
        show m < n ∨ n + 1 ≤ m
        have : m ≠ n := fun e => hnA (by rw [← e]; exact hm)
        omega
      have q2' : smS D (evO s.T) o.op ⟨s.H.t, n, n + 1⟩ = some (.new ob f) := (smS_loc (fun _ _ => rfl)).trans q2
      have hb : Nat.blt n (n + 1) = true := by simp [Nat.blt_eq]
      have hop : opS D (evO s.T) o.op ⟨s.H.t, n, n + 1⟩ = some (f n, (Mem.mk s.H.t n (n + 1)).alloc ob) := by
        rw [smS_opS q2']
        show (bif Nat.blt n (n + 1) then _ else _) = _
        rw [hb]
        rfl
      refine (opS_ok B.ok B.Z B.M B.C hop hM1 hEv).wpIn hF (opS_nd hop) (fun ρ' A' v' w' hv hS => ?_)
      have hU : RmF P ρ A (un s.H.get (loose S s.L)) n (n + 1) w := ⟨hst.mem.inj, hst.mem.obj, hst.mem.live, hM1.sub, hst.mem.small, hnl⟩
      have hS2 := StF.beside (g := s.H.get) (r := loose S s.L) (loose_apart I.L) hU hS
      have hget : ∀ m, ((Mem.mk s.H.t n (n + 1)).alloc ob).get m = if m = n then some ob else s.H.get m := fun m => (Mem.mk s.H.t n (n + 1)).get_alloc ob hnl m
      have hHn : s.H.get n = none := I.L.away _ q4
      have hlsn : loose S s.L n = none := by
        cases hl : loose S s.L n with
        | none => rfl
        | some x =>
          obtain ⟨i, h1, h2⟩ := loose_some hl
          have := I.L.nm _ h1 _ q4 rfl
          injection this with h3 h4
          subst h3
          rw [hSj] at h2
          cases h2
      have hun : ∀ m, un s.H.get (loose (plus S j) s.L) m = un ((Mem.mk s.H.t n (n + 1)).alloc ob).get (loose S s.L) m := by
        intro m
        by_cases hm : m = n
        · subst hm
          rw [un_right hHn, loose_of I.L q4 plus_self]
          exact (un_left (by rw [hget, if_pos rfl])).symm
        · have e1 : loose (plus S j) s.L m = loose S s.L m := by
            apply Option.ext
            intro x
            rw [loose_iff I.L, loose_iff I.L]
            constructor
            · rintro ⟨i, h1, h2⟩
              rcases plus_true h2 with h3 | rfl
              · exact ⟨i, h1, h3⟩
              · have := I.L.id _ h1 _ q4 rfl
                injection this with h3 h4
                injection h4 with h4 h5
                exact (hm h4).elim
            · rintro ⟨i, h1, h2⟩
              exact ⟨i, h1, plus_old h2⟩
          unfold un
          rw [hget, if_neg hm, e1]
      have hfin : StF P ρ0 A0 g0 k0 e0 w0 ρ' A' (un s.H.get (loose (plus S j) s.L)) s.H.next s.H.top w' := by
        have e1 : un s.H.get (loose (plus S j) s.L) = un ((Mem.mk s.H.t n (n + 1)).alloc ob).get (loose S s.L) := funext hun
        rw [e1]
        have hmk := hst.next
        have hfr : ∀ m, A' m → A m ∨ m = n := fun m hm => by
          rcases hS.fresh m hm with h1 | ⟨h1, h2⟩
          · exact Or.inl h1
          · simp only at h1 h2
            exact Or.inr (by omega)
        have hfull : StF P ρ A (un s.H.get (loose S s.L)) s.H.next s.H.top w ρ' A' (un ((Mem.mk s.H.t n (n + 1)).alloc ob).get (loose S s.L)) s.H.next s.H.top w' ∨ True := Or.inr trivial
        refine ⟨fun m hm => (hS2.agree m (hst.up m hm)).trans (hst.agree m hm), fun m hm => hS2.up m (hst.up m hm), fun m hm => ?_, hst.next, hst.top, ⟨hS2.mem.inj, hS2.mem.obj, hS2.mem.live, fun m hm => ?_, hS2.mem.small, hst.mem.lim⟩, Nat.le_trans hst.size hS2.size, hS2.tape.trans hst.tape, hS2.os.trans hst.os, hS2.output.trans hst.output, fun b hb hf => ?_, fun m x hm => ?_⟩
        · rcases hfr m hm with h1 | h1
          · exact hst.fresh m h1
          · rcases Nat.lt_or_ge n k0 with h2 | h2
            · omega
            · have := hst.top
              exact Or.inr (by omega)
        · rcases hfr m hm with h1 | h1
          · exact hst.mem.sub m h1
          · exact Or.inl (by omega)
        · refine (hS2.frame b (Nat.lt_of_lt_of_le hb hst.size) fun m x hm e => ?_).trans (hst.frame b hb hf)
          rcases hst.img m x hm with h1 | ⟨m2, o2, h1, h2⟩
          · omega
          · exact hf m2 o2 h1 (h2.symm.trans e)
        · rcases hS2.img m x hm with h1 | ⟨m2, o2, h1, h2⟩
          · exact Or.inl (Nat.le_trans hst.size h1)
          · rcases hst.img m2 o2 h1 with h3 | ⟨m3, o3, h3, h4⟩
            · exact Or.inl (by rw [h2]; exact h3)
            · exact Or.inr ⟨m3, o3, h3, h2.trans h4⟩
      refine I.done K hj ho hd hfin hS.agree hS.up hA hB (fun x hx hSx hAx => ?_) (fun d hdd => by rw [q5 d hdd]; exact hv)
      obtain ⟨h1, h2⟩ := plus_false hSx
      rcases hS.fresh _ hAx with h3 | h3
      · exact hnm x hx h1 h3
      · simp only at h3
        have : x = (j, n, ob) := I.L.nm x hx _ q4 (by simp only; omega)
        exact h2 (by rw [this])
  · have hund : (∀ x ∈ s.L, x.1 ≠ j) ∧ ∀ d, o.dst = some d → tget s.T d = undef := by
      rcases I.fact j hj hSj o ho with ⟨_, q2⟩ | ⟨q1, _⟩ | ⟨q1, _⟩
      · exact q2
      · have := I.want K ho hd q1
        rw [hw] at this
        cases this
      · have := I.want K ho hd q1
        rw [hw] at this
        cases this
    refine I.done K hj ho hd (hst.cong (fun n => ?_) (Nat.le_refl _)) (fun _ _ => rfl) (fun _ h => h) hA hB (fun x hx hSx => hnm x hx (plus_false hSx).1) (fun d hdd => by rw [hund.2 d hdd]; exact Rv.und)
    unfold un
    rw [loose_plus I.L (fun x hx e => hund.1 x hx e)]
end
end Go.Proofs.YtepmjghgnhklfaaGreatDoor.det
namespace Go.Proofs.YtepmjghgnhklfaaGreatDoor.det
open Go

section
variable {D : Dat} {P : Program} {nt G : Nat} {one : (Operand → Value) → Oper → Mem → Option (Value × Mem)} {ops : Array Oper}
variable {T0 : Tr Value} {ρ0 : Ren} {A0 : Nat → Prop} {g0 : Nat → Option CObj} {k0 e0 : Nat} {w0 : World} {df : List Deferred} {s s' : RS} {dn : List Nat} {S : Nat → Bool} {a : Act} {w : World} {F : Fence}

/-- after a step, what lay apart still does -/
theorem StF.apart {P : Program} {ρ ρ' : Ren} {A A' : Nat → Prop} {g r g' : Nat → Option CObj} {k e k' e' : Nat} {w w' : World} (hd : ∀ n o o', g n = some o → r n = some o' → False) (hU : RmF P ρ A (un g r) k e w) (h : StF P ρ A g k e w ρ' A' g' k' e' w') (n : Nat) (o o' : CObj) (h1 : g' n = some o) (h2 : r n = some o') : False := by
  have hr : un g r n = some o' := by
    cases hg : g n with
    | none => rw [un_right hg]; exact h2
    | some x => exact (hd n x o' hg h2).elim
  have hA := hU.live n o' hr
  rcases h.img n o h1 with h3 | ⟨m, x, h3, h4⟩
  · rw [h.agree n hA] at h3
    have := hU.block_lt hr
    omega
  · rw [h.agree n hA] at h4
    have := hU.inj n m o' x hr (un_left h3) h4
    subst this
    exact hd _ _ _ h3 h2
theorem allStill_mem {T : Tr Value} {M : Mem} : ∀ {W : List (Nat × Oper × Value)}, allStill D T M W = true → ∀ x ∈ W, still D T M x = true
  | [], _, x, hx => by cases hx
  | y :: W, h, x, hx => by
    have e : allStill D T M (y :: W) = bif still D T M y then allStill D T M W else false := rfl
    rw [e] at h
    cases hy : still D T M y <;> rw [hy] at h
    · cases h
    · rcases List.mem_cons.mp hx with rfl | hx
      · exact hy
      · exact allStill_mem h x hx
theorem still_some {T : Tr Value} {M : Mem} {j : Nat} {o : Oper} {v : Value} (h : still D T M (j, o, v) = true) : smS D (evO T) o.op M = some (.val v) ∧ ∀ b ∈ tch (evO T) o.op M, ∃ x, M.get b = some x := by
  unfold still at h
  rw [Bool.and_eq_true] at h
  refine ⟨?_, allIn_mem h.2⟩
  have h1 := h.1
  split at h1
  · rename_i v' hv
    have h2 : v = v' := veq_eq h1
    rw [h2]
    exact hv
  · cases h1
/-- a great one is done -/
theorem Inv.do_great (hF : FenceOk P F) (B : Base D P) (O : OneOk P G one) (K : OpsOk ops nt G) (hn : nt ≤ lim) (hG : GOK ρ0 A0 G) (I : Inv D P ops nt T0 ρ0 A0 g0 k0 e0 w0 df s dn S a w) {i : Nat} {o : Oper} {ab : List Nat} (ho : ops[i]? = some o) (hni : i ∉ dn) (hd : ∀ d ∈ deps o, S d = true) (hab : ∀ z ∈ ab, S z = true)
    (hs : great D nt one ops.toList s o ab = some s') {Q : Exit → Act → World → Prop} : wpOpIn F 0 P ops Q i (Inv D P ops nt T0 ρ0 A0 g0 k0 e0 w0 df s' (i :: dn) (plus S i)) a w := by
  have hdn : ∀ d ∈ deps o, d ∈ dn := fun d h => I.sub d (hd d h)
  have hdl : ∀ d, o.dst = some d → d < nt := fun d hd => K.dst i o d ho hd
  have hown : ∀ t ∈ o.looksAt ops, o.dst ≠ some t := fun t ht hd => hni (hdn i (K.look i o ho t ht i o ho hd))
  have hTl : ∀ v, ∀ t ∈ o.looksAt ops, tget (putT nt o.dst v s.T) t = tget s.T t := fun v t ht => putT_other hn hdl (hown t ht)
  have hLi : ∀ x ∈ s.L, x.1 ≠ i := fun x hx e => hni (by rw [← e]; exact I.Ld x hx)
  have hSi : S i = false := by
    cases h : S i with
    | false => rfl
    | true => exact (hni (I.sub i h)).elim
  unfold great at hs
  split at hs
  · rename_i hw
    split at hs
    · rename_i v M' hone
      cases hall : allStill D (putT nt o.dst v s.T) M' (absL ab s.W) <;> rw [hall] at hs
      · cases hs
      · simp only [cond_true, Option.some.injEq] at hs
        obtain ⟨ρ, A, hst, hA, hB, hnm⟩ := I.st
        have hGk := hst.gok hG
        have hEv := I.ev K hGk hB ho hd
        have hun1 : ∀ n, un (absT ab s.L s.H.t).get (loose S (absL ab s.L)) n = un s.H.get (loose S s.L) n := taken_un I.L hab
        have hL1 := I.L.taken (ab := ab)
        have hU : RmF P ρ A (un (absT ab s.L s.H.t).get (loose S (absL ab s.L))) s.H.next s.H.top w := by
          rw [funext hun1]
          exact hst.mem
        have hM : Rm P ρ A ⟨absT ab s.L s.H.t, s.H.next, s.H.top⟩ w := hU.sub2 (fun n o hn => un_left hn)
        refine wpOpIn_of hF ho (fun _ => O.ok hone hM hGk hEv hF (fun ρ' A' v' w' hv hS => ?_)) (fun hw2 => ?_)
        rotate_left
        · have := I.want K ho hd hw
          rw [hw2] at this
          cases this
        have hS2 := StF.beside (loose_apart hL1) hU hS
        have hdst : ∀ j ∈ dn, ∀ oj, ops[j]? = some oj → ∀ t, oj.dst = some t → o.dst ≠ some t := fun j hj oj hoj t ht h => by
          have := K.one i o j oj t ho hoj h ht
          subst this
          exact hni hj
        have hnxt : s.H.next ≤ M'.next := hS.next
        have hmiss : ∀ t, (∃ j ∈ i :: dn, plus S i j = false ∧ ∃ y, ops[j]? = some y ∧ y.dst = some t) → (∃ j ∈ dn, S j = false ∧ ∃ y, ops[j]? = some y ∧ y.dst = some t) ∧ o.dst ≠ some t := by
          rintro t ⟨j, h1, h2, y, h3, h4⟩
          obtain ⟨h5, h6⟩ := plus_false h2
          have h1 := (List.mem_cons.mp h1).resolve_left h6
          exact ⟨⟨j, h1, h5, y, h3, h4⟩, hdst j h1 y h3 t h4⟩
        subst hs
        refine ⟨fun j hj => ?_, fun j hj => ?_, fun j oj hj hoj d hdj => ?_, by rw [put_size]; exact I.size, fun t ht => ?_, ⟨ρ', A', ?_, fun t ht h => ?_, fun t ht h => ?_, fun x hx hSx hAx => ?_⟩, fun j hj hSj oj hoj => ?_, ?_, fun x hx => ?_, fun x hx => ?_, by rw [put_defers]; exact I.df⟩
        · rcases plus_true hj with h | rfl
          · exact List.mem_cons_of_mem _ (I.sub j h)
          · simp
        · rcases List.mem_cons.mp hj with rfl | hj
          · exact ⟨o, ho, fun d hd => List.mem_cons_of_mem _ (hdn d hd)⟩
          · obtain ⟨oj, h1, h2⟩ := I.dep j hj
            exact ⟨oj, h1, fun d hd => List.mem_cons_of_mem _ (h2 d hd)⟩
        · rcases plus_true hj with h | rfl
          · exact plus_old (I.clo j oj h hoj d hdj)
          · rw [ho] at hoj
            injection hoj with hoj
            subst hoj
            exact plus_old (hd d hdj)
        · rw [putT_other hn hdl (fun h => ht i (by simp) o ho h)]
          exact I.same t (fun j hj oj hoj => ht j (List.mem_cons_of_mem _ hj) oj hoj)
        · have h1 : StF P ρ0 A0 g0 k0 e0 w0 ρ A (un (absT ab s.L s.H.t).get (loose S (absL ab s.L))) s.H.next s.H.top w := hst.cong hun1 (Nat.le_refl _)
          refine (h1.trans hS2).cong (fun n => ?_) (Nat.le_refl _)
          unfold un
          rw [loose_plus (g := (absT ab s.L s.H.t).get) hL1 (fun x hx e => hLi x (absL_mem.mp hx).1 e)]
        · obtain ⟨h1, h2⟩ := hmiss t h
          rw [put_other h2]
          exact (hA t ht h1).up hS.up hS.agree
        · by_cases hdt : o.dst = some t
          · rw [put_same hdt (by rw [I.size]; exact ht), putT_same hn hdt ht]
            exact hv
          · rw [put_other hdt, putT_other hn hdl hdt]
            refine (hB t ht (fun ⟨j, h1, h2, y, h3, h4⟩ => h ⟨j, List.mem_cons_of_mem _ h1, ?_, y, h3, h4⟩)).up hS.up hS.agree
            have hne : j ≠ i := fun e => hni (by rw [← e]; exact h1)
            unfold plus
            rw [h2, Bool.false_or]
            cases hb : Nat.beq j i with
            | false => rfl
            | true => exact (hne (Nat.eq_of_beq_eq_true hb)).elim
        · obtain ⟨h1, h2⟩ := absL_mem.mp hx
          rcases hS.fresh _ hAx with h3 | h3
          · exact hnm x h1 (plus_false hSx).1 h3
          · have := (I.Ln x h1).2.1
            simp only at h3
            omega
        · obtain ⟨h5, h6⟩ := plus_false hSj
          have hj := (List.mem_cons.mp hj).resolve_left h6
          have hjab : j ∉ ab := fun h => by rw [hab j h] at h5; cases h5
          have hTj : ∀ t ∈ oj.looksAt ops, tget (putT nt o.dst v s.T) t = tget s.T t := fun t ht => putT_other hn hdl (fun hdt => by
            obtain ⟨oj', h1, h2⟩ := I.dep j hj
            rw [hoj] at h1
            injection h1 with h1
            subst h1
            exact hni (h2 i (K.look j oj hoj t ht i o ho hdt)))
          have hTd : ∀ d, oj.dst = some d → tget (putT nt o.dst v s.T) d = tget s.T d := fun d hd => putT_other hn hdl (hdst j hj oj hoj d hd)
          have hwj := want_ev (ops := ops) hTj
          have hej := ev_ev (ops := ops) hTj
          unfold Fact
          simp only
          rw [hwj]
          rcases I.fact j hj h5 oj hoj with ⟨q1, q0, q2⟩ | ⟨q1, q0, u, q2, q3, q4, q5⟩ | ⟨q1, ob, f, n, q2, q3, q4, q5⟩
          · exact Or.inl ⟨q1, fun x hx => q0 x (absL_mem.mp hx).1, fun d hd => by rw [hTd d hd]; exact q2 d hd⟩
          · refine Or.inr (Or.inl ⟨q1, fun x hx => q0 x (absL_mem.mp hx).1, u, ?_⟩)
            rcases q4 with q4 | q4
            · have e1 : tch (evO (putT nt o.dst v s.T)) oj.op M' = [] := (tch_ev hej).trans (tch_nil q4)
              refine ⟨((smS_ev hej).trans (smS_loc (M2 := s.H) (fun b hb => ?_))).trans q2, fun d hd => by rw [hTd d hd]; exact q3 d hd, Or.inl e1, fun b hb => ?_⟩
              · rw [tch_nil q4] at hb; cases hb
              · rw [e1] at hb; cases hb
            · have hmem : (j, oj, u) ∈ absL ab s.W := absL_mem.mpr ⟨q4, hjab⟩
              obtain ⟨e1, e2⟩ := still_some (allStill_mem hall _ hmem)
              exact ⟨e1, fun d hd => by rw [hTd d hd]; exact q3 d hd, Or.inr hmem, e2⟩
          · refine Or.inr (Or.inr ⟨q1, ob, f, n, ?_, (tch_ev hej).trans (tch_nil q3), absL_mem.mpr ⟨q4, hjab⟩, fun d hd => by rw [hTd d hd]; exact q5 d hd⟩)
            refine ((smS_ev hej).trans (smS_loc (M2 := s.H) (fun b hb => ?_))).trans q2
            rw [tch_nil q3] at hb; cases hb
        · refine ⟨hL1.nm, hL1.id, fun x hx => ?_, hL1.small⟩
          cases hg : M'.t.get x.2.1 with
          | none => rfl
          | some y =>
            obtain ⟨h1, h2⟩ := absL_mem.mp hx
            cases hSx : S x.1 with
            | false =>
              have hAx := hS.mem.live x.2.1 y hg
              rcases hS.fresh _ hAx with h3 | h3
              · exact (hnm x h1 hSx h3).elim
              · have := (I.Ln x h1).2.1
                simp only at h3
                omega
            | true => exact (StF.apart (loose_apart hL1) hU hS x.2.1 y x.2.2 hg (loose_of hL1 hx hSx)).elim
        · have := I.Ln x (absL_mem.mp hx).1
          have ht := hS.top
          simp only at ht ⊢
          omega
        · exact List.mem_cons_of_mem _ (I.Ld x (absL_mem.mp hx).1)
    · cases hs
  · rename_i hw
    injection hs with hs
    have I2 : Inv D P ops nt T0 ρ0 A0 g0 k0 e0 w0 df s' (i :: dn) S a w := by
      subst hs
      refine I.grow K ho hdn hni (fun t ht => putT_other hn hdl ht) rfl rfl (Nat.le_refl _) (Or.inl rfl) (fun _ h => h) ?_
      exact Or.inl ⟨(want_ev (hTl _)).trans hw, hLi, fun d hd => putT_same hn hd (hdl d hd)⟩
    exact I2.do_light hF B K hG (by simp) hSi ho hd
  · cases hs
end
end Go.Proofs.YtepmjghgnhklfaaGreatDoor.det
namespace Go.Proofs.YtepmjghgnhklfaaGreatDoor.det
open Go

section
variable {D : Dat} {P : Program} {nt G : Nat} {one : (Operand → Value) → Oper → Mem → Option (Value × Mem)} {ops : Array Oper}
variable {T0 : Tr Value} {ρ0 : Ren} {A0 : Nat → Prop} {g0 : Nat → Option CObj} {k0 e0 : Nat} {w0 : World} {df : List Deferred} {s s' : RS} {dn : List Nat} {S : Nat → Bool} {a : Act} {w : World} {F : Fence}

theorem mem_deps {o : Oper} {d : Nat} : d ∈ deps o ↔ ∃ e ∈ o.after, Region.binds .any e = true ∧ e.on = d := by
  unfold deps
  rw [List.mem_map]
  constructor
  · rintro ⟨e, h1, h2⟩
    rw [List.mem_filter] at h1
    exact ⟨e, by simpa using h1.1, h1.2, h2⟩
  · rintro ⟨e, h1, h2, h3⟩
    exact ⟨e, List.mem_filter.mpr ⟨by simpa using h1, h2⟩, h3⟩
theorem clo_ok (hc : ∀ (i : Nat) (o : Oper), S i = true → ops[i]? = some o → ∀ d ∈ deps o, S d = true) : ∀ (n : Nat) (ds : List Nat), (∀ d ∈ ds, S d = true) → ∀ d ∈ clo ops.toList n ds, S d = true
  | 0, _, h, d, hd => h d hd
  | n + 1, ds, h, d, hd => by
    unfold clo at hd
    rcases List.mem_append.mp hd with h1 | h1
    · exact h d h1
    · refine clo_ok hc n _ (fun x hx => ?_) d h1
      rw [List.mem_flatMap] at hx
      obtain ⟨y, hy, hx⟩ := hx
      rw [Array.getElem?_toList] at hx
      cases ho : ops[y]? with
      | none => rw [ho] at hx; cases hx
      | some o => rw [ho] at hx; exact hc y o (h y hy) ho x hx
theorem chkPl_all : ∀ {pl : List PStep} {dn : List Nat}, chkPl ops dn pl = true → ∀ j, j < ops.size → j ∈ dn ∨ ∃ p ∈ pl, p.i = j
  | [], dn, h, j, hj => by
    simp only [chkPl, List.all_eq_true, List.mem_range] at h
    have := h j hj
    exact Or.inl (by simpa using this)
  | p :: r, dn, h, j, hj => by
    unfold chkPl at h
    split at h
    · simp only [Bool.and_eq_true] at h
      rcases chkPl_all h.2 j hj with h1 | ⟨q, h1, h2⟩
      · rcases List.mem_cons.mp h1 with h1 | h1
        · exact Or.inr ⟨p, by simp, h1.symm⟩
        · exact Or.inl h1
      · exact Or.inr ⟨q, List.mem_cons_of_mem _ h1, h2⟩
    · cases h
theorem chkPl_cons {p : PStep} {r : List PStep} {dn : List Nat} (h : chkPl ops dn (p :: r) = true) : ∃ o, ops[p.i]? = some o ∧ (∀ d ∈ deps o, d ∈ dn) ∧ p.i ∉ dn ∧ (p.big = true → (∀ z ∈ p.ab, z ∈ clo ops.toList ops.size (deps o)) ∧ ∀ q ∈ r, ∃ oq, ops[q.i]? = some oq ∧ ∃ d ∈ deps oq, d ∉ dn) ∧ chkPl ops (p.i :: dn) r = true := by
  unfold chkPl at h
  split at h
  · rename_i o ho
    rw [Array.getElem?_toList] at ho
    simp only [Bool.and_eq_true, List.all_eq_true] at h
    obtain ⟨⟨⟨h1, h2⟩, h3⟩, h4⟩ := h
    refine ⟨o, ho, fun d hd => by simpa using h1 d hd, by simpa using h2, fun hb => ?_, h4⟩
    rw [hb] at h3
    simp only [Bool.not_true, Bool.false_or, Bool.and_eq_true, List.all_eq_true] at h3
    refine ⟨fun z hz => by simpa using h3.1 z hz, fun q hq => ?_⟩
    have := h3.2 q hq
    split at this
    · rename_i oq hoq
      rw [Array.getElem?_toList] at hoq
      rw [List.any_eq_true] at this
      obtain ⟨d, h5, h6⟩ := this
      exact ⟨oq, hoq, d, h5, by simpa using h6⟩
    · cases this
  · cases h
/-- each behind those it waits for -/
def Ordd (ops : Array Oper) : List Nat → Prop
  | [] => True
  | i :: ys => (∀ o, ops[i]? = some o → ∀ d ∈ deps o, d ∈ ys) ∧ Ordd ops ys
theorem all_listed {listed : Array Bool} (hsz : listed.size = ops.size) (hr : Region.ready .any ops listed = []) : ∀ {dn : List Nat}, Ordd ops dn → (∀ i ∈ dn, ∃ o, ops[i]? = some o) → ∀ i ∈ dn, listed.getD i false = true
  | [], _, _, i, hi => by cases hi
  | j :: ys, h, hs, i, hi => by
    have ih := all_listed hsz hr h.2 (fun i hi => hs i (List.mem_cons_of_mem _ hi))
    rcases List.mem_cons.mp hi with rfl | hi
    · obtain ⟨o, ho⟩ := hs i (by simp)
      cases hl : listed.getD i false with
      | true => rfl
      | false =>
        have hlt : i < listed.size := by
          rw [hsz]
          rcases Nat.lt_or_ge i ops.size with h1 | h1
          · exact h1
          · rw [Array.getElem?_eq_none h1] at ho; cases ho
        have hl2 : listed.getD i true = false := by
          rw [Array.getD_eq_getD_getElem?, Array.getElem?_eq_getElem hlt] at hl ⊢
          exact hl
        have : i ∈ Region.ready .any ops listed := mem_ready.mpr ⟨hl2, o, ho, fun e he hb => ih e.on (h.1 o ho e.on (mem_deps.mpr ⟨e, he, hb, rfl⟩))⟩
        rw [hr] at this
        cases this
    · exact ih i hi
theorem cnt_set : ∀ (l : List Bool) (j : Nat), l[j]? = some false → (l.set j true).count false + 1 = l.count false
  | [], j, h => by simp at h
  | b :: l, 0, h => by
    simp only [List.getElem?_cons_zero, Option.some.injEq] at h
    subst h
    simp
  | b :: l, j + 1, h => by
    have := cnt_set l j (by simpa using h)
    simp only [List.set_cons_succ, List.count_cons]
    omega
theorem listed_plus {listed : Array Bool} {j : Nat} (hj : j < listed.size) : (fun i => (listed.setIfInBounds j true).getD i false) = plus (fun i => listed.getD i false) j := by
  funext i
  show (listed.setIfInBounds j true).getD i false = (listed.getD i false || Nat.beq i j)
  rw [Array.getD_eq_getD_getElem?, Array.getD_eq_getD_getElem?, Array.getElem?_setIfInBounds]
  by_cases h : j = i
  · subst h
    simp [hj]
  · rw [if_neg h]
    have : Nat.beq i j = false := by
      cases hb : Nat.beq i j with
      | false => rfl
      | true => exact (h (Nat.eq_of_beq_eq_true hb).symm).elim
    rw [this, Bool.or_false]
theorem plan_cons {l : List Oper} {p : PStep} {r : List PStep} {fin : RS} (h : plan D nt one l (p :: r) s = some fin) : ∃ o s', l[p.i]? = some o ∧ (bif p.big then great D nt one l s o p.ab else light D nt l s p.i o) = some s' ∧ plan D nt one l r s' = some fin := by
  have e : plan D nt one l (p :: r) s = match nth l p.i with
    | some o => (match (bif p.big then great D nt one l s o p.ab else light D nt l s p.i o) with | some s' => plan D nt one l r s' | none => none)
    | none => none := rfl
  rw [e, nth_eq] at h
  cases ho : l[p.i]? with
  | none => rw [ho] at h; cases h
  | some o =>
    rw [ho] at h
    simp only at h
    cases hs : (bif p.big then great D nt one l s o p.ab else light D nt l s p.i o) with
    | none => rw [hs] at h; cases h
    | some s' => rw [hs] at h; exact ⟨o, s', rfl, hs, h⟩
theorem drawn_go (hF : FenceOk P F) (B : Base D P) (O : OneOk P G one) (K : OpsOk ops nt G) (hn : nt ≤ lim) (hG : GOK ρ0 A0 G) {Q : Exit → Act → World → Prop} {fin : RS}
    (hQ : ∀ ρ' A' a' w', StF P ρ0 A0 g0 k0 e0 w0 ρ' A' (absA fin.L fin.H.t).get fin.H.next fin.H.top w' → Rt ρ' A' nt fin.T a'.tmps → a'.defers = df → Q .normal a' w') :
    ∀ (fuel : Nat) (pl : List PStep) (s : RS) (dn : List Nat) (listed : Array Bool) (a : Act) (w : World), chkPl ops dn pl = true → Inv D P ops nt T0 ρ0 A0 g0 k0 e0 w0 df s dn (fun i => listed.getD i false) a w → plan D nt one ops.toList pl s = some fin → listed.size = ops.size →
      listed.toList.count false ≤ fuel → Ordd ops dn → wpAnyIn F 0 P .any ops Q fuel listed a w := by
  -- the end
  have hend : ∀ (pl : List PStep) (s : RS) (dn : List Nat) (listed : Array Bool) (a : Act) (w : World), chkPl ops dn pl = true → Inv D P ops nt T0 ρ0 A0 g0 k0 e0 w0 df s dn (fun i => listed.getD i false) a w → plan D nt one ops.toList pl s = some fin → listed.size = ops.size → Ordd ops dn →
      Region.ready .any ops listed = [] → Q .normal a w := by
    intro pl s dn listed a w hc I hp hsz hord hr
    have hall := all_listed hsz hr hord (fun i hi => let ⟨o, h, _⟩ := I.dep i hi; ⟨o, h⟩)
    cases pl with
    | cons p r =>
      exfalso
      obtain ⟨o, ho, hd, hni, _, _⟩ := chkPl_cons hc
      have hlt : p.i < listed.size := by
        rw [hsz]
        rcases Nat.lt_or_ge p.i ops.size with h1 | h1
        · exact h1
        · rw [Array.getElem?_eq_none h1] at ho; cases ho
      have hl : listed.getD p.i false = false := by
        cases h : listed.getD p.i false with
        | false => rfl
        | true => exact (hni (I.sub p.i h)).elim
      have hl2 : listed.getD p.i true = false := by
        rw [Array.getD_eq_getD_getElem?, Array.getElem?_eq_getElem hlt] at hl ⊢
        exact hl
      have : p.i ∈ Region.ready .any ops listed := mem_ready.mpr ⟨hl2, o, ho, fun e he hb => hall e.on (hd e.on (mem_deps.mpr ⟨e, he, hb, rfl⟩))⟩
      rw [hr] at this
      cases this
    | nil =>
      have e : plan D nt one ops.toList [] s = some s := rfl
      rw [e] at hp
      injection hp with hp
      subst hp
      obtain ⟨ρ, A, hst, hA, hB, hnm⟩ := I.st
      refine hQ ρ A a w (hst.cong (fun n => ?_) (Nat.le_refl _)) ⟨I.size, fun t ht => hB t ht ?_⟩ I.df
      · exact all_un I.L (fun x hx => hall x.1 (I.Ld x hx)) n
      · rintro ⟨i, h1, h2, _⟩
        have := hall i h1
        rw [h2] at this
        cases this
  intro fuel
  induction fuel with
  | zero =>
    intro pl s dn listed a w hc I hp hsz hcnt hord
    have hr : Region.ready .any ops listed = [] := by
      rw [List.eq_nil_iff_forall_not_mem]
      intro j hj
      obtain ⟨h1, o, ho, _⟩ := mem_ready.mp hj
      have hlt : j < listed.size := by
        rw [hsz]
        rcases Nat.lt_or_ge j ops.size with h1 | h1
        · exact h1
        · rw [Array.getElem?_eq_none h1] at ho; cases ho
      rw [Array.getD_eq_getD_getElem?, Array.getElem?_eq_getElem hlt] at h1
      have h2 : false ∈ listed.toList := by
        rw [Array.mem_toList_iff]
        exact Array.mem_of_getElem (h := hlt) h1
      have := List.count_pos_iff.mpr h2
      omega
    exact ⟨hr, hend pl s dn listed a w hc I hp hsz hord hr⟩
  | succ fuel ih =>
    intro pl
    induction pl with
    | nil =>
      intro s dn listed a w hc I hp hsz hcnt hord
      refine ⟨hend [] s dn listed a w hc I hp hsz hord, fun j hj => ?_⟩
      obtain ⟨h1, o, ho, hdeps⟩ := mem_ready.mp hj
      have hlt : j < listed.size := by
        rw [hsz]
        rcases Nat.lt_or_ge j ops.size with h1 | h1
        · exact h1
        · rw [Array.getElem?_eq_none h1] at ho; cases ho
      have hS : listed.getD j false = false := by
        rw [Array.getD_eq_getD_getElem?, Array.getElem?_eq_getElem hlt] at h1 ⊢
        exact h1
      have hd : ∀ d ∈ deps o, listed.getD d false = true := fun d hd => by
        obtain ⟨e, h2, h3, rfl⟩ := mem_deps.mp hd
        exact hdeps e h2 h3
      have hjd : j ∈ dn := by
        rcases chkPl_all hc j (by omega) with h2 | ⟨p, h2, _⟩
        · exact h2
        · cases h2
      refine wpOpIn_mono (fun a' w' I' => ih [] s dn _ a' w' hc ?_ hp (by simpa using hsz) ?_ hord) (I.do_light hF B K hG hjd hS ho hd)
      · rw [listed_plus hlt]; exact I'
      · have := cnt_set listed.toList j (by rw [Array.getElem?_toList, Array.getElem?_eq_getElem hlt]; rw [Array.getD_eq_getD_getElem?, Array.getElem?_eq_getElem hlt] at hS; exact congrArg some hS)
        rw [Array.toList_setIfInBounds]
        omega
    | cons p r ihp =>
      intro s dn listed a w hc I hp hsz hcnt hord
      obtain ⟨o, ho, hdn, hni, hbig, hc2⟩ := chkPl_cons hc
      obtain ⟨o', s', ho', hs', hp'⟩ := plan_cons hp
      rw [Array.getElem?_toList, ho] at ho'
      injection ho' with ho'
      subst ho'
      have hord2 : Ordd ops (p.i :: dn) := ⟨fun o' h => by rw [ho] at h; injection h with h; subst h; exact hdn, hord⟩
      cases hb : p.big with
      | false =>
        rw [hb] at hs'
        exact ihp s' (p.i :: dn) listed a w hc2 (I.light K hn ho hdn hni hs') hp' hsz hcnt hord2
      | true =>
        rw [hb] at hs'
        obtain ⟨hab, hrest⟩ := hbig hb
        refine ⟨hend (p :: r) s dn listed a w hc I hp hsz hord, fun j hj => ?_⟩
        obtain ⟨h1, oj, hoj, hdeps⟩ := mem_ready.mp hj
        have hlt : j < listed.size := by
          rw [hsz]
          rcases Nat.lt_or_ge j ops.size with h1 | h1
          · exact h1
          · rw [Array.getElem?_eq_none h1] at hoj; cases hoj
        have hS : listed.getD j false = false := by
          rw [Array.getD_eq_getD_getElem?, Array.getElem?_eq_getElem hlt] at h1 ⊢
          exact h1
        have hd : ∀ d ∈ deps oj, listed.getD d false = true := fun d hd => by
          obtain ⟨e, h2, h3, rfl⟩ := mem_deps.mp hd
          exact hdeps e h2 h3
        have hcnt2 : ((listed.setIfInBounds j true).toList).count false ≤ fuel := by
          have := cnt_set listed.toList j (by rw [Array.getElem?_toList, Array.getElem?_eq_getElem hlt]; rw [Array.getD_eq_getD_getElem?, Array.getElem?_eq_getElem hlt] at hS; exact congrArg some hS)
          rw [Array.toList_setIfInBounds]
          omega
        by_cases hjd : j ∈ dn
        · refine wpOpIn_mono (fun a' w' I' => ih (p :: r) s dn _ a' w' hc ?_ hp (by simpa using hsz) hcnt2 hord) (I.do_light hF B K hG hjd hS hoj hd)
          rw [listed_plus hlt]; exact I'
        · have hjp : j = p.i := by
            rcases chkPl_all hc j (by omega) with h2 | ⟨q, h2, h3⟩
            · exact (hjd h2).elim
            · rcases List.mem_cons.mp h2 with rfl | h2
              · exact h3.symm
              · obtain ⟨oq, h4, d, h5, h6⟩ := hrest q h2
                rw [h3, hoj] at h4
                injection h4 with h4
                subst h4
                exact (h6 (I.sub d (hd d h5))).elim
          subst hjp
          rw [ho] at hoj
          injection hoj with hoj
          subst hoj
          refine wpOpIn_mono (fun a' w' I' => ih r s' (p.i :: dn) _ a' w' hc2 ?_ hp' (by simpa using hsz) hcnt2 hord2) (I.do_great hF B O K hn hG ho hni hd (fun z hz => clo_ok I.clo _ _ hd z (hab z hz)) hs')
          rw [listed_plus hlt]; exact I'
/-- a region that draws its order -/
theorem drawn_ok (hF : FenceOk P F) (B : Base D P) (O : OneOk P G one) {T : Tr Value} {M : Mem} {ρ : Ren} {A : Nat → Prop} (hm : P.follows .mixedOrders = true) (hc : chkOps ops nt G = true) {pl : List PStep} (hp : chkPl ops [] pl = true) (hn : nt ≤ lim) (hG : GOK ρ A G) (hM : Rm P ρ A M w) (hT : Rt ρ A nt T a.tmps) {fin : RS} (hr : plan D nt one ops.toList pl ⟨T, M, [], []⟩ = some fin)
    {Q : Exit → Act → World → Prop} (hQ : ∀ ρ' A' a' w', St P ρ A M w ρ' A' ⟨absA fin.L fin.H.t, fin.H.next, fin.H.top⟩ w' → Rt ρ' A' nt fin.T a'.tmps → a'.defers = a.defers → Q .normal a' w') {id : Nat} : (Code.region id ops true).wpIn F 0 P Q a w := by
  refine wpIn_region_any hm ?_
  have h0 : St P ρ A M w ρ A M { w with drawn := w.drawn + 1 } := St.of_heap hM rfl rfl rfl rfl
  refine drawn_go (T0 := T) (ρ0 := ρ) (A0 := A) (g0 := M.get) (k0 := M.next) (e0 := M.top) (w0 := w) (df := a.defers) hF B O (chkOps_ok hc) hn hG hQ ops.size pl ⟨T, M, [], []⟩ [] _ a _ hp ?_ hr (by simp) ?_ trivial
  · have hf : ∀ i, (Array.replicate ops.size false).getD i false = false := fun i => by
      rw [Array.getD_eq_getD_getElem?, Array.getElem?_replicate]
      split <;> rfl
    refine ⟨fun i hi => ?_, fun i hi => (by cases hi), fun i o hi => ?_, hT.size, fun _ _ => rfl, ⟨ρ, A, h0.cong (fun n => ?_) (Nat.le_refl _), fun t ht h => ?_, fun t ht _ => hT.val t ht, fun x hx => (by cases hx)⟩, fun j hj => (by cases hj), ⟨fun x hx => (by cases hx), fun x hx => (by cases hx), fun x hx => (by cases hx), fun x hx => (by cases hx)⟩, fun x hx => (by cases hx), fun x hx => (by cases hx), rfl⟩
    · rw [hf] at hi; cases hi
    · rw [hf] at hi; cases hi
    · show un M.get (fun _ => none) n = M.get n
      unfold un
      cases M.get n <;> rfl
    · obtain ⟨i, h1, _⟩ := h
      cases h1
  · simp
end
end Go.Proofs.YtepmjghgnhklfaaGreatDoor.det
