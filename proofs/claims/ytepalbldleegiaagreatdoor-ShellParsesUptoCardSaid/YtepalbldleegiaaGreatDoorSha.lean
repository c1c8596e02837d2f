/-
  Plain law of a response's line: what is written, and that unlike responses have unlike lines, all of them visible.
  Conditions: a response's numbers as their Go types have them where it is said.
-/
import Derived.Lib.ItoaNum
namespace Go.Proofs.YtepalbldleegiaaGreatDoor.sh
open Go.Lib (itoa decDigits)

abbrev Bs := List UInt8

def bareB (c : UInt8) : Bool := (97 ≤ c && c ≤ 122) || (65 ≤ c && c ≤ 90) || (48 ≤ c && c ≤ 57) || c == 46 || c == 95 || c == 45
def digitsL : Bs := [48, 49, 50, 51, 52, 53, 54, 55, 56, 57, 97, 98, 99, 100, 101, 102]
def hexd (n : Nat) : UInt8 := digitsL.getD n 0
def hexL (c : UInt8) : Bs := [hexd (c.toNat / 16), hexd (c.toNat % 16)]
def escL (c : UInt8) : Bs := if c = 34 ∨ c = 92 then [92, c] else if 32 ≤ c ∧ c ≤ 126 then [c] else 92 :: 120 :: hexL c
def textL (s : Bs) : Bs := if s ≠ [] ∧ s.all bareB = true then s else 34 :: (s.flatMap escL ++ [34])

structure Rsp (κ : Type) where
  id : Int
  op : Int
  code : Int
  off : Int
  num : Int
  more : Bool
  names : List Bs
  recs : List κ

structure Rec where
  kind : Int
  off : Int
  time : Int
  pid : Int
  seq : Int
  key : Bs
  val : Bs
deriving DecidableEq

def opWords : List Bs := [[112,105,110,103],[99,114,101,97,116,101],[100,114,111,112],[108,105,115,116],[112,117,116],[100,101,108,101,116,101],[103,101,116],[114,101,112,108,97,121],[115,110,97,112,115,104,111,116],[115,117,98,115,99,114,105,98,101],[117,110,115,117,98,115,99,114,105,98,101],[106,111,105,110],[99,111,109,109,105,116],[112,111,115,105,116,105,111,110],[115,116,97,116]]
def deliverL : Bs := [100,101,108,105,118,101,114]
def opL (op : Int) : Bs := if 1 ≤ op ∧ op ≤ 15 then opWords.getD (op.toNat - 1) [] else if op = 64 then deliverL else 111 :: 112 :: itoa op
def codeWords : List Bs := [[111,107],[98,97,100,45,114,101,113,117,101,115,116],[110,111,45,116,111,112,105,99],[101,120,105,115,116,115],[102,117,108,108],[111,102,102,115,101,116,115],[104,111,114,105,122,111,110,45,112,97,115,115,101,100],[116,104,114,111,116,116,108,101,100],[115,101,113,117,101,110,99,101],[116,111,111,45,109,97,110,121],[110,111,45,115,117,99,104],[98,101,121,111,110,100]]
def codeL (c : Int) : Bs := if 0 ≤ c ∧ c < 12 then codeWords.getD c.toNat [] else 99 :: 111 :: 100 :: 101 :: itoa c
def moreL (b : Bool) : Bs := if b then [109,111,114,101] else [108,97,115,116]
def nameW : Bs := [110,97,109,101]
def kindL (k : Int) : Bs := if k = 1 then [118,97,108,117,101] else if k = 2 then [116,111,109,98,115,116,111,110,101] else 107 :: 105 :: 110 :: 100 :: itoa k
def recParts (r : Rec) : List Bs := [kindL r.kind, itoa r.off, itoa r.time, itoa r.pid, itoa r.seq, textL r.key, textL r.val]
def headParts (r : Rsp Rec) : List Bs := [itoa r.id, opL r.op, codeL r.code, itoa r.off, itoa r.num, moreL r.more]
def showParts (r : Rsp Rec) : List Bs := headParts r ++ (r.names.flatMap (fun n => [nameW, textL n]) ++ r.recs.flatMap recParts)
/-- parts joined by blanks -/
def joinB : List Bs → Bs
  | [] => []
  | [p] => p
  | p :: q :: l => p ++ 32 :: joinB (q :: l)
def showL (r : Rsp Rec) : Bs := joinB (showParts r)

theorem joinB_cons (p : Bs) (l : List Bs) : joinB (p :: l) = p ++ l.flatMap (fun q => 32 :: q) := by
  induction l generalizing p with
  | nil => simp [joinB]
  | cons q l ih => rw [joinB, ih]; simp

/-! ### visible -/
def vis (s : Bs) : Prop := ∀ c ∈ s, 32 ≤ c ∧ c ≤ 126
theorem vis_append {a b : Bs} (ha : vis a) (hb : vis b) : vis (a ++ b) := fun c hc => by
  rcases List.mem_append.1 hc with h | h
  · exact ha c h
  · exact hb c h
theorem vis_dec (u : Nat) : ∀ c ∈ decDigits u, 48 ≤ c ∧ c ≤ 57 := by
  induction u using Nat.strongRecOn with
  | _ u ih =>
    have key : ∀ k : Nat, k < 10 → 48 ≤ UInt8.ofNat (48 + k) ∧ UInt8.ofNat (48 + k) ≤ 57 := by decide
    by_cases h : u < 10
    · rw [decDigits, dif_pos h]; intro c hc; rw [List.mem_singleton] at hc; subst hc; exact key u h
    · rw [decDigits, dif_neg h]; intro c hc
      rcases List.mem_append.1 hc with hh | hh
      · exact ih _ (by omega) c hh
      · rw [List.mem_singleton] at hh; subst hh; exact key _ (by omega)
theorem dec_ne (u : Nat) : decDigits u ≠ [] := by
  rw [decDigits]; split <;> simp
theorem ofNat_inj10 : ∀ a b : Nat, a < 10 → b < 10 → UInt8.ofNat (48 + a) = UInt8.ofNat (48 + b) → a = b := by
  intro a b ha hb h
  have : ∀ a b : Fin 10, UInt8.ofNat (48 + a.val) = UInt8.ofNat (48 + b.val) → a = b := by decide
  have := this ⟨a, ha⟩ ⟨b, hb⟩ h
  simpa using this
theorem dec_small {u : Nat} (h : u < 10) : decDigits u = [UInt8.ofNat (48 + u)] := by rw [decDigits, dif_pos h]
theorem dec_big {u : Nat} (h : ¬ u < 10) : decDigits u = decDigits (u / 10) ++ [UInt8.ofNat (48 + u % 10)] := by rw [decDigits, dif_neg h]
theorem dec_inj : ∀ u v : Nat, decDigits u = decDigits v → u = v := by
  intro u
  induction u using Nat.strongRecOn with
  | _ u ih =>
    intro v h
    by_cases hu : u < 10
    · by_cases hv : v < 10
      · rw [dec_small hu, dec_small hv] at h
        exact ofNat_inj10 u v hu hv (List.cons.inj h).1
      · rw [dec_small hu, dec_big hv] at h
        have hl := congrArg List.length h
        have hn := List.length_pos_iff.2 (dec_ne (v / 10))
        rw [List.length_append, List.length_singleton, List.length_singleton] at hl
        omega
    · by_cases hv : v < 10
      · rw [dec_big hu, dec_small hv] at h
        have hl := congrArg List.length h
        have hn := List.length_pos_iff.2 (dec_ne (u / 10))
        rw [List.length_append, List.length_singleton, List.length_singleton] at hl
        omega
      · rw [dec_big hu, dec_big hv] at h
        obtain ⟨h1, h2⟩ := List.append_inj' h rfl
        have e1 := ih (u / 10) (by omega) (v / 10) h1
        have e2 := ofNat_inj10 _ _ (by omega) (by omega) (List.cons.inj h2).1
        omega
theorem itoa_inj (a b : Int) (h : itoa a = itoa b) : a = b := by
  unfold itoa at h
  have hno : ∀ u (l : Bs), decDigits u = 45 :: l → False := fun u l e => by
    have := vis_dec u 45 (by rw [e]; simp)
    exact absurd this.1 (by decide)
  by_cases ha : a < 0 <;> by_cases hb : b < 0
  · rw [if_pos ha, if_pos hb] at h
    have := dec_inj _ _ (List.cons.inj h).2; omega
  · rw [if_pos ha, if_neg hb] at h; exact (hno _ _ h.symm).elim
  · rw [if_neg ha, if_pos hb] at h; exact (hno _ _ h).elim
  · rw [if_neg ha, if_neg hb] at h
    have := dec_inj _ _ h; omega
theorem itoa_chars (a : Int) : ∀ c ∈ itoa a, (48 ≤ c ∧ c ≤ 57) ∨ c = 45 := by
  unfold itoa
  intro c hc
  split at hc
  · rcases List.mem_cons.1 hc with h | h
    · exact Or.inr h
    · exact Or.inl (vis_dec _ c h)
  · exact Or.inl (vis_dec _ c hc)
theorem itoa_ne (a : Int) : itoa a ≠ [] := by
  unfold itoa; split
  · simp
  · exact dec_ne _

/-! ### hex and escapes -/
theorem hexd_inj : ∀ a b : Nat, a < 16 → b < 16 → hexd a = hexd b → a = b := by
  intro a b ha hb h
  have : ∀ a b : Fin 16, hexd a.val = hexd b.val → a = b := by decide
  have := this ⟨a, ha⟩ ⟨b, hb⟩ h
  simpa using this
theorem hexd_char : ∀ a : Nat, a < 16 → (48 ≤ hexd a ∧ hexd a ≤ 57) ∨ (97 ≤ hexd a ∧ hexd a ≤ 102) := by
  intro a ha
  have : ∀ a : Fin 16, (48 ≤ hexd a.val ∧ hexd a.val ≤ 57) ∨ (97 ≤ hexd a.val ∧ hexd a.val ≤ 102) := by decide
  exact this ⟨a, ha⟩
theorem hex_lt (c : UInt8) : c.toNat / 16 < 16 ∧ c.toNat % 16 < 16 := by have := c.toNat_lt; omega
theorem hexL_inj (c d : UInt8) (h1 : hexd (c.toNat / 16) = hexd (d.toNat / 16)) (h2 : hexd (c.toNat % 16) = hexd (d.toNat % 16)) : c = d := by
  have a := hexd_inj _ _ (hex_lt c).1 (hex_lt d).1 h1
  have b := hexd_inj _ _ (hex_lt c).2 (hex_lt d).2 h2
  apply UInt8.toNat_inj.1
  omega
theorem escL_form (c : UInt8) : (escL c = [92, c] ∧ (c = 34 ∨ c = 92)) ∨ (escL c = [c] ∧ c ≠ 34 ∧ c ≠ 92 ∧ 32 ≤ c ∧ c ≤ 126) ∨ (escL c = 92 :: 120 :: hexL c) := by
  unfold escL
  by_cases h : c = 34 ∨ c = 92
  · exact Or.inl ⟨by rw [if_pos h], h⟩
  · by_cases h2 : 32 ≤ c ∧ c ≤ 126
    · exact Or.inr (Or.inl ⟨by rw [if_neg h, if_pos h2], fun e => h (Or.inl e), fun e => h (Or.inr e), h2.1, h2.2⟩)
    · exact Or.inr (Or.inr (by rw [if_neg h, if_neg h2]))
theorem escL_head (c d : UInt8) (X Y : Bs) (h : escL c ++ X = escL d ++ Y) : c = d ∧ X = Y := by
  rcases escL_form c with ⟨e1, p1⟩ | ⟨e1, p1⟩ | e1 <;> rcases escL_form d with ⟨e2, p2⟩ | ⟨e2, p2⟩ | e2 <;> rw [e1, e2] at h <;> simp only [hexL, List.cons_append, List.nil_append, List.cons.injEq] at h
  · exact ⟨h.2.1, h.2.2⟩
  · exact absurd h.1.symm p2.2.1
  · rcases p1 with rfl | rfl <;> exact absurd h.2.1 (by decide)
  · exact absurd h.1 p1.2.1
  · exact h
  · exact absurd h.1 p1.2.1
  · rcases p2 with rfl | rfl <;> exact absurd h.2.1 (by decide)
  · exact absurd h.1.symm p2.2.1
  · exact ⟨hexL_inj c d h.2.2.1 h.2.2.2.1, h.2.2.2.2⟩
theorem escL_ne (c : UInt8) : escL c ≠ [] := by
  rcases escL_form c with ⟨e, _⟩ | ⟨e, _⟩ | e <;> rw [e] <;> simp
theorem esc_inj : ∀ s t : Bs, s.flatMap escL = t.flatMap escL → s = t
  | [], [], _ => rfl
  | [], d :: t, h => by
    rw [List.flatMap_nil, List.flatMap_cons] at h
    exact absurd (List.append_eq_nil_iff.1 h.symm).1 (escL_ne d)
  | c :: s, [], h => by
    rw [List.flatMap_nil, List.flatMap_cons] at h
    exact absurd (List.append_eq_nil_iff.1 h).1 (escL_ne c)
  | c :: s, d :: t, h => by
    rw [List.flatMap_cons, List.flatMap_cons] at h
    obtain ⟨e, h2⟩ := escL_head c d _ _ h
    rw [e, esc_inj s t h2]
theorem bare_not (c : UInt8) (h : bareB c = true) : c ≠ 34 ∧ c ≠ 32 ∧ c ≠ 92 ∧ 32 ≤ c ∧ c ≤ 126 := by
  have hf : ∀ n : Fin 256, bareB (UInt8.ofNat n.val) = true → UInt8.ofNat n.val ≠ 34 ∧ UInt8.ofNat n.val ≠ 32 ∧ UInt8.ofNat n.val ≠ 92 ∧ 32 ≤ UInt8.ofNat n.val ∧ UInt8.ofNat n.val ≤ 126 := by decide +kernel
  have he : UInt8.ofNat c.toNat = c := by simp
  have := hf ⟨c.toNat, c.toNat_lt⟩
  rw [he] at this
  exact this h
theorem textL_inj (s t : Bs) (h : textL s = textL t) : s = t := by
  unfold textL at h
  have key : ∀ (u : Bs) (l : Bs), u ≠ [] ∧ u.all bareB = true → u = 34 :: l → False := fun u l hu e => by
    have := List.all_eq_true.1 hu.2 34 (by rw [e]; simp)
    exact absurd this (by decide)
  by_cases hs : s ≠ [] ∧ s.all bareB = true <;> by_cases ht : t ≠ [] ∧ t.all bareB = true
  · rwa [if_pos hs, if_pos ht] at h
  · rw [if_pos hs, if_neg ht] at h; exact (key _ _ hs h).elim
  · rw [if_neg hs, if_pos ht] at h; exact (key _ _ ht h.symm).elim
  · rw [if_neg hs, if_neg ht] at h
    exact esc_inj _ _ (List.append_inj' (List.cons.inj h).2 rfl).1

/-! ### the cut of a line at its blanks -/
/-- one byte more: in quotes or not, behind a backslash or not; none: a blank that cuts -/
def step (q e : Bool) (c : UInt8) : Option (Bool × Bool) :=
  if e then some (q, false) else if q && c == 92 then some (q, true) else if c == 34 then some (!q, false) else if c == 32 && !q then none else some (q, false)
def cutL (cur : Bs) (q e : Bool) : Bs → List Bs
  | [] => [cur]
  | c :: s => match step q e c with
    | some (q', e') => cutL (cur ++ [c]) q' e' s
    | none => cur :: cutL [] false false s
def run (q e : Bool) : Bs → Option (Bool × Bool)
  | [] => some (q, e)
  | c :: s => (step q e c).bind fun x => run x.1 x.2 s
def closed (p : Bs) : Prop := run false false p = some (false, false)
theorem run_append (a b : Bs) : ∀ q e, run q e (a ++ b) = (run q e a).bind fun x => run x.1 x.2 b := by
  induction a with
  | nil => intro q e; rfl
  | cons c a ih =>
    intro q e
    simp only [List.cons_append, run]
    cases step q e c with
    | none => rfl
    | some x => simp [ih]
theorem cutL_run (p s : Bs) : ∀ (cur : Bs) (q e q' e' : Bool), run q e p = some (q', e') → cutL cur q e (p ++ s) = cutL (cur ++ p) q' e' s := by
  induction p with
  | nil => intro cur q e q' e' h; simp only [run, Option.some.injEq, Prod.mk.injEq] at h; obtain ⟨rfl, rfl⟩ := h; simp
  | cons c p ih =>
    intro cur q e q' e' h
    simp only [run] at h
    simp only [List.cons_append, cutL]
    cases hs : step q e c with
    | none => rw [hs] at h; cases h
    | some x =>
      rw [hs] at h
      simp only [Option.bind_some] at h
      obtain ⟨q1, e1⟩ := x
      simp only
      rw [ih _ _ _ _ _ h]
      simp
theorem cutL_join (l : List Bs) (hl : ∀ p ∈ l, closed p) (p : Bs) (hp : closed p) : cutL [] false false (joinB (p :: l)) = p :: l := by
  induction l generalizing p with
  | nil =>
    have := cutL_run p [] [] false false false false hp
    simpa [joinB, cutL] using this
  | cons q l ih =>
    rw [joinB, cutL_run p _ [] false false false false hp]
    simp only [List.nil_append, cutL]
    have : step false false 32 = none := by decide
    rw [this]
    simp only
    rw [ih (fun x hx => hl x (List.mem_cons_of_mem _ hx)) q (hl q List.mem_cons_self)]
theorem run_plain (p : Bs) (h : ∀ c ∈ p, c ≠ 34 ∧ c ≠ 32) : closed p := by
  unfold closed
  induction p with
  | nil => rfl
  | cons c p ih =>
    have hc := h c List.mem_cons_self
    have : step false false c = some (false, false) := by simp [step, hc.1, hc.2]
    simp only [run, this, Option.bind_some]
    exact ih fun d hd => h d (List.mem_cons_of_mem _ hd)
theorem run_esc1 (c : UInt8) : run true false (escL c) = some (true, false) := by
  rcases escL_form c with ⟨e, _⟩ | ⟨e, h1, h2, _⟩ | e <;> rw [e]
  · simp [run, step]
  · simp [run, step, h1, h2]
  · have hx : ∀ a : Nat, a < 16 → step true false (hexd a) = some (true, false) := by
      intro a ha
      have : ∀ a : Fin 16, step true false (hexd a.val) = some (true, false) := by decide
      exact this ⟨a, ha⟩
    have s1 : step true false 92 = some (true, true) := by decide
    have s2 : step true true 120 = some (true, false) := by decide
    simp only [hexL, run, s1, s2, hx _ (hex_lt c).1, hx _ (hex_lt c).2, Option.bind_some]
theorem run_esc (s : Bs) : run true false (s.flatMap escL) = some (true, false) := by
  induction s with
  | nil => rfl
  | cons c s ih => rw [List.flatMap_cons, run_append, run_esc1]; exact ih
theorem closed_text (s : Bs) : closed (textL s) := by
  unfold textL
  split
  · rename_i h
    exact run_plain s fun c hc => by
      have := bare_not c (List.all_eq_true.1 h.2 c hc)
      exact ⟨this.1, this.2.1⟩
  · unfold closed
    have s1 : step false false 34 = some (true, false) := by decide
    have s2 : step true false 34 = some (false, false) := by decide
    simp only [run, s1, Option.bind_some, run_append, run_esc, s2]


/-! ### a response's parts are its own -/
theorem opWords_o : ∀ i : Fin 15, (opWords.getD i.val []).head? ≠ some 111 := by decide
theorem opWords_inj : ∀ i j : Fin 15, opWords.getD i.val [] = opWords.getD j.val [] → i = j := by decide
theorem opWords_del : ∀ i : Fin 15, opWords.getD i.val [] ≠ deliverL := by decide
theorem opL_inj (a b : Int) (h : opL a = opL b) : a = b := by
  unfold opL at h
  by_cases ha : 1 ≤ a ∧ a ≤ 15 <;> by_cases hb : 1 ≤ b ∧ b ≤ 15
  · rw [if_pos ha, if_pos hb] at h
    have := opWords_inj ⟨a.toNat - 1, by omega⟩ ⟨b.toNat - 1, by omega⟩ h
    have := congrArg Fin.val this
    simp at this
    omega
  · rw [if_pos ha, if_neg hb] at h
    by_cases hb2 : b = 64
    · rw [if_pos hb2] at h; exact (opWords_del ⟨a.toNat - 1, by omega⟩ h).elim
    · rw [if_neg hb2] at h; exact (opWords_o ⟨a.toNat - 1, by omega⟩ (by simp only; rw [h]; rfl)).elim
  · rw [if_neg ha, if_pos hb] at h
    by_cases ha2 : a = 64
    · rw [if_pos ha2] at h; exact (opWords_del ⟨b.toNat - 1, by omega⟩ h.symm).elim
    · rw [if_neg ha2] at h; exact (opWords_o ⟨b.toNat - 1, by omega⟩ (by simp only; rw [← h]; rfl)).elim
  · rw [if_neg ha, if_neg hb] at h
    by_cases ha2 : a = 64 <;> by_cases hb2 : b = 64
    · omega
    · rw [if_pos ha2, if_neg hb2] at h; exact absurd (List.cons.inj h).1 (by decide)
    · rw [if_neg ha2, if_pos hb2] at h; exact absurd (List.cons.inj h).1 (by decide)
    · rw [if_neg ha2, if_neg hb2] at h
      exact itoa_inj _ _ (List.cons.inj (List.cons.inj h).2).2
theorem codeWords_c : ∀ i : Fin 12, (codeWords.getD i.val []).head? ≠ some 99 := by decide
theorem codeWords_inj : ∀ i j : Fin 12, codeWords.getD i.val [] = codeWords.getD j.val [] → i = j := by decide
theorem codeL_inj (a b : Int) (h : codeL a = codeL b) : a = b := by
  unfold codeL at h
  by_cases ha : 0 ≤ a ∧ a < 12 <;> by_cases hb : 0 ≤ b ∧ b < 12
  · rw [if_pos ha, if_pos hb] at h
    have := congrArg Fin.val (codeWords_inj ⟨a.toNat, by omega⟩ ⟨b.toNat, by omega⟩ h)
    simp at this
    omega
  · rw [if_pos ha, if_neg hb] at h; exact (codeWords_c ⟨a.toNat, by omega⟩ (by simp only; rw [h]; rfl)).elim
  · rw [if_neg ha, if_pos hb] at h; exact (codeWords_c ⟨b.toNat, by omega⟩ (by simp only; rw [← h]; rfl)).elim
  · rw [if_neg ha, if_neg hb] at h
    exact itoa_inj _ _ (by simpa using h)
theorem kindL_inj (a b : Int) (h : kindL a = kindL b) : a = b := by
  unfold kindL at h
  by_cases ha : a = 1 <;> by_cases ha2 : a = 2 <;> by_cases hb : b = 1 <;> by_cases hb2 : b = 2 <;> try omega
  all_goals simp only [ha, ha2, hb, hb2, if_true, if_false] at h
  all_goals first | (exfalso; revert h; decide) | skip
  all_goals try simp only [List.cons.injEq, true_and] at h
  all_goals first | exact itoa_inj _ _ h | (exfalso; simp at h)
theorem kindL_name (a : Int) : kindL a ≠ nameW := by
  unfold kindL nameW
  intro h
  by_cases ha : a = 1
  · rw [if_pos ha] at h; revert h; decide
  · by_cases ha2 : a = 2
    · rw [if_neg ha, if_pos ha2] at h; revert h; decide
    · rw [if_neg ha, if_neg ha2] at h; simp at h
theorem moreL_inj (a b : Bool) (h : moreL a = moreL b) : a = b := by revert h; cases a <;> cases b <;> decide
theorem recs_inj : ∀ a b : List Rec, a.flatMap recParts = b.flatMap recParts → a = b
  | [], [], _ => rfl
  | [], r :: b, h => by simp [recParts] at h
  | r :: a, [], h => by simp [recParts] at h
  | r :: a, s :: b, h => by
    simp only [List.flatMap_cons, recParts, List.cons_append, List.nil_append, List.cons.injEq] at h
    obtain ⟨h1, h2, h3, h4, h5, h6, h7, h8⟩ := h
    have e : r = s := by
      cases r; cases s
      simp only [Rec.mk.injEq]
      exact ⟨kindL_inj _ _ h1, itoa_inj _ _ h2, itoa_inj _ _ h3, itoa_inj _ _ h4, itoa_inj _ _ h5, textL_inj _ _ h6, textL_inj _ _ h7⟩
    rw [e, recs_inj a b h8]
theorem rest_inj : ∀ (n m : List Bs) (a b : List Rec), n.flatMap (fun n => [nameW, textL n]) ++ a.flatMap recParts = m.flatMap (fun n => [nameW, textL n]) ++ b.flatMap recParts → n = m ∧ a = b
  | [], [], a, b, h => ⟨rfl, recs_inj a b (by simpa using h)⟩
  | [], x :: m, [], b, h => by simp at h
  | [], x :: m, r :: a, b, h => by
    simp only [List.flatMap_nil, List.nil_append, List.flatMap_cons, recParts, List.cons_append, List.cons.injEq] at h
    exact (kindL_name _ h.1).elim
  | x :: n, [], a, [], h => by simp at h
  | x :: n, [], a, r :: b, h => by
    simp only [List.flatMap_nil, List.nil_append, List.flatMap_cons, recParts, List.cons_append, List.cons.injEq] at h
    exact (kindL_name _ h.1.symm).elim
  | x :: n, y :: m, a, b, h => by
    simp only [List.flatMap_cons, List.cons_append, List.nil_append, List.cons.injEq, true_and] at h
    obtain ⟨h1, h2⟩ := h
    obtain ⟨h3, h4⟩ := rest_inj n m a b h2
    exact ⟨by rw [textL_inj _ _ h1, h3], h4⟩
theorem parts_inj (a b : Rsp Rec) (h : showParts a = showParts b) : a = b := by
  simp only [showParts, headParts, List.cons_append, List.nil_append, List.cons.injEq] at h
  obtain ⟨h1, h2, h3, h4, h5, h6, h7⟩ := h
  obtain ⟨h8, h9⟩ := rest_inj _ _ _ _ h7
  cases a; cases b
  simp only [Rsp.mk.injEq]
  exact ⟨itoa_inj _ _ h1, opL_inj _ _ h2, codeL_inj _ _ h3, itoa_inj _ _ h4, itoa_inj _ _ h5, moreL_inj _ _ h6, h8, h9⟩

theorem closed_of_vis (p : Bs) (h : ∀ c ∈ p, (48 ≤ c ∧ c ≤ 57) ∨ c = 45 ∨ (97 ≤ c ∧ c ≤ 122)) : closed p := run_plain p fun c hc => by
  rcases h c hc with ⟨h, _⟩ | rfl | ⟨h, _⟩
  · exact ⟨fun e => by subst e; exact absurd h (by decide), fun e => by subst e; exact absurd h (by decide)⟩
  · exact ⟨by decide, by decide⟩
  · exact ⟨fun e => by subst e; exact absurd h (by decide), fun e => by subst e; exact absurd h (by decide)⟩
theorem closed_itoa (n : Int) : closed (itoa n) := closed_of_vis _ fun c hc => by
  rcases itoa_chars n c hc with h | h
  · exact Or.inl h
  · exact Or.inr (Or.inl h)
theorem okWords : ∀ p ∈ opWords ++ codeWords ++ [deliverL, nameW, moreL true, moreL false, [118,97,108,117,101], [116,111,109,98,115,116,111,110,101], [111,112], [99,111,100,101], [107,105,110,100]], p ≠ [] ∧ ∀ c ∈ p, c = 45 ∨ (97 ≤ c ∧ c ≤ 122) := by decide
def chars (p : Bs) : Prop := ∀ c ∈ p, (48 ≤ c ∧ c ≤ 57) ∨ c = 45 ∨ (97 ≤ c ∧ c ≤ 122)
theorem chars_word (p : Bs) (h : p ∈ opWords ++ codeWords ++ [deliverL, nameW, moreL true, moreL false, [118,97,108,117,101], [116,111,109,98,115,116,111,110,101], [111,112], [99,111,100,101], [107,105,110,100]]) : chars p :=
  fun c hc => Or.inr ((okWords p h).2 c hc)
theorem chars_itoa (n : Int) : chars (itoa n) := fun c hc => by
  rcases itoa_chars n c hc with h | h
  · exact Or.inl h
  · exact Or.inr (Or.inl h)
theorem chars_app {a b : Bs} (ha : chars a) (hb : chars b) : chars (a ++ b) := fun c hc => by
  rcases List.mem_append.1 hc with h | h
  · exact ha c h
  · exact hb c h
theorem getD_mem {l : List Bs} {i : Nat} (h : i < l.length) : l.getD i [] ∈ l := by
  rw [List.getD_eq_getElem?_getD, List.getElem?_eq_getElem h]; exact List.getElem_mem h
theorem chars_op (op : Int) : chars (opL op) := by
  unfold opL
  split
  · exact chars_word _ (List.mem_append_left _ (List.mem_append_left _ (getD_mem (by show op.toNat - 1 < 15; omega))))
  · split
    · exact chars_word _ (by decide)
    · exact chars_app (a := [111, 112]) (chars_word _ (by decide)) (chars_itoa op)
theorem chars_code (c : Int) : chars (codeL c) := by
  unfold codeL
  split
  · exact chars_word _ (List.mem_append_left _ (List.mem_append_right _ (getD_mem (by show c.toNat < 12; omega))))
  · exact chars_app (a := [99, 111, 100, 101]) (chars_word _ (by decide)) (chars_itoa c)
theorem chars_kind (k : Int) : chars (kindL k) := by
  unfold kindL
  split
  · exact chars_word _ (by decide)
  · split
    · exact chars_word _ (by decide)
    · exact chars_app (a := [107, 105, 110, 100]) (chars_word _ (by decide)) (chars_itoa k)
theorem chars_more (b : Bool) : chars (moreL b) := by cases b <;> exact chars_word _ (by decide)
theorem vis_chars {p : Bs} (h : chars p) : vis p := fun c hc => by
  rcases h c hc with ⟨h1, h2⟩ | rfl | ⟨h1, h2⟩
  · exact ⟨UInt8.le_trans (by decide) h1, UInt8.le_trans h2 (by decide)⟩
  · exact ⟨by decide, by decide⟩
  · exact ⟨UInt8.le_trans (by decide) h1, UInt8.le_trans h2 (by decide)⟩
theorem vis_esc (c : UInt8) : vis (escL c) := by
  have hh : ∀ a : Nat, a < 16 → 32 ≤ hexd a ∧ hexd a ≤ 126 := fun a ha => by
    rcases hexd_char a ha with ⟨h1, h2⟩ | ⟨h1, h2⟩ <;> exact ⟨UInt8.le_trans (by decide) h1, UInt8.le_trans h2 (by decide)⟩
  intro d hd
  rcases escL_form c with ⟨e, h⟩ | ⟨e, _, _, h1, h2⟩ | e <;> rw [e] at hd
  · simp only [List.mem_cons, List.not_mem_nil, or_false] at hd
    rcases hd with rfl | rfl
    · exact ⟨by decide, by decide⟩
    · rcases h with rfl | rfl <;> exact ⟨by decide, by decide⟩
  · simp only [List.mem_cons, List.not_mem_nil, or_false] at hd
    subst hd; exact ⟨h1, h2⟩
  · simp only [hexL, List.mem_cons, List.not_mem_nil, or_false] at hd
    rcases hd with rfl | rfl | rfl | rfl
    · exact ⟨by decide, by decide⟩
    · exact ⟨by decide, by decide⟩
    · exact hh _ (hex_lt c).1
    · exact hh _ (hex_lt c).2
theorem vis_text (s : Bs) : vis (textL s) := by
  unfold textL
  split
  · rename_i h
    intro c hc
    have := bare_not c (List.all_eq_true.1 h.2 c hc)
    exact ⟨this.2.2.2.1, this.2.2.2.2⟩
  · refine vis_append (a := [34]) (fun c hc => by rw [List.mem_singleton] at hc; subst hc; exact ⟨by decide, by decide⟩) (vis_append (fun c hc => ?_) (fun c hc => by rw [List.mem_singleton] at hc; subst hc; exact ⟨by decide, by decide⟩))
    obtain ⟨d, _, hd⟩ := List.mem_flatMap.1 hc
    exact vis_esc d c hd
theorem parts_ok (r : Rsp Rec) : ∀ p ∈ showParts r, closed p ∧ vis p := by
  have hc : ∀ {p : Bs}, chars p → closed p ∧ vis p := fun h => ⟨closed_of_vis _ h, vis_chars h⟩
  have ht : ∀ s : Bs, closed (textL s) ∧ vis (textL s) := fun s => ⟨closed_text s, vis_text s⟩
  intro p hp
  simp only [showParts, headParts, List.mem_append, List.mem_cons, List.not_mem_nil, or_false, List.mem_flatMap, recParts] at hp
  rcases hp with (rfl | rfl | rfl | rfl | rfl | rfl) | ⟨n, _, rfl | rfl⟩ | ⟨x, _, rfl | rfl | rfl | rfl | rfl | rfl | rfl⟩
  · exact hc (chars_itoa _)
  · exact hc (chars_op _)
  · exact hc (chars_code _)
  · exact hc (chars_itoa _)
  · exact hc (chars_itoa _)
  · exact hc (chars_more _)
  · exact hc (chars_word _ (by decide))
  · exact ht _
  · exact hc (chars_kind _)
  · exact hc (chars_itoa _)
  · exact hc (chars_itoa _)
  · exact hc (chars_itoa _)
  · exact hc (chars_itoa _)
  · exact ht _
  · exact ht _
theorem vis_join : ∀ (l : List Bs), (∀ p ∈ l, vis p) → vis (joinB l)
  | [], _ => fun c hc => by cases hc
  | [p], h => h p List.mem_cons_self
  | p :: q :: l, h => by
    rw [joinB]
    exact vis_append (h p List.mem_cons_self) (vis_append (a := [32]) (fun c hc => by rw [List.mem_singleton] at hc; subst hc; exact ⟨by decide, by decide⟩) (vis_join (q :: l) fun x hx => h x (List.mem_cons_of_mem _ hx)))
/-- lines are visible -/
theorem vis_show (r : Rsp Rec) : vis (showL r) := vis_join _ fun p hp => (parts_ok r p hp).2
theorem show_ne (r : Rsp Rec) : showL r ≠ [] := by
  unfold showL showParts headParts
  rw [List.cons_append, joinB_cons]
  intro h
  exact itoa_ne _ (List.append_eq_nil_iff.1 h).1
/-- unlike responses have unlike lines -/
theorem show_inj (a b : Rsp Rec) (h : showL a = showL b) : a = b := by
  have ha : cutL [] false false (showL a) = showParts a := by
    have hp := parts_ok a
    unfold showL showParts headParts at *
    rw [List.cons_append] at *
    exact cutL_join _ (fun p h => (hp p (List.mem_cons_of_mem _ h)).1) _ (hp _ List.mem_cons_self).1
  have hb : cutL [] false false (showL b) = showParts b := by
    have hp := parts_ok b
    unfold showL showParts headParts at *
    rw [List.cons_append] at *
    exact cutL_join _ (fun p h => (hp p (List.mem_cons_of_mem _ h)).1) _ (hp _ List.mem_cons_self).1
  exact parts_inj a b (by rw [← ha, ← hb, h])
end Go.Proofs.YtepalbldleegiaaGreatDoor.sh
