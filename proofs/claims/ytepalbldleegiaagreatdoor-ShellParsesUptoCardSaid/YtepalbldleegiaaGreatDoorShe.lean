/-
  Plain law of blanks: a command's line with one blank more is none, but within a number of a list of picks; lines are visible.
  Conditions: the command is no 'say'.
-/
import Derived.Test.YtepalbldleegiaaGreatDoorShd
namespace Go.Proofs.YtepalbldleegiaaGreatDoor.sh
open Go.Lib (itoa decDigits atoiAll NumEnd)

theorem vis_verb : ∀ v : Fin 11, vis (verbWords.getD v.val []) ∧ verbWords.getD v.val [] ≠ [] := by unfold vis; decide
theorem vis_raw (s : Bs) : vis (rawL s) := by
  unfold rawL
  split
  · unfold vis; decide
  · intro c hc
    obtain ⟨d, _, hd⟩ := List.mem_flatMap.1 hc
    have hh : ∀ a : Nat, a < 16 → 32 ≤ hexd a ∧ hexd a ≤ 126 := by
      intro a ha
      have : ∀ a : Fin 16, 32 ≤ hexd a.val ∧ hexd a.val ≤ 126 := by decide
      exact this ⟨a, ha⟩
    simp only [hexL, List.mem_cons, List.not_mem_nil, or_false] at hd
    rcases hd with rfl | rfl
    · exact hh _ (hex_lt d).1
    · exact hh _ (hex_lt d).2
theorem raw_ne (s : Bs) : rawL s ≠ [] := by
  unfold rawL
  split
  · simp
  · cases s with
    | nil => rename_i h; exact (h rfl).elim
    | cons c s => simp [hexL]
theorem text_ne (s : Bs) : textL s ≠ [] := by
  unfold textL
  split
  · rename_i h; exact h.1
  · simp
theorem opL_ne (op : Int) : opL op ≠ [] := by
  unfold opL
  split
  · rename_i h
    have hh : ∀ i : Fin 15, opWords.getD i.val [] ≠ [] := by decide
    exact hh ⟨op.toNat - 1, by omega⟩
  · split
    · decide
    · simp
theorem vis_parts (c : Cmd) : ∀ p ∈ writeV c, vis p ∧ p ≠ [] := by
  have hi : ∀ n, vis (itoa n) ∧ itoa n ≠ [] := fun n => ⟨vis_chars (chars_itoa n), itoa_ne n⟩
  intro p hp
  unfold writeV at hp
  split at hp <;> simp only [List.mem_cons, List.not_mem_nil, or_false, List.mem_map] at hp
  · subst hp; exact hi _
  · subst hp; exact hi _
  · rcases hp with rfl | rfl | rfl | ⟨f, _, rfl⟩
    · exact hi _
    · exact hi _
    · exact ⟨vis_chars (chars_op _), opL_ne _⟩
    · cases f <;> first | exact ⟨vis_text _, text_ne _⟩ | exact hi _
  · rcases hp with rfl | rfl
    · exact hi _
    · exact ⟨vis_raw _, raw_ne _⟩
  · subst hp; exact hi _
  · obtain ⟨x, _, rfl⟩ := hp; exact hi _
  · rcases hp with rfl | rfl <;> exact hi _
  · subst hp; exact hi _
  · obtain ⟨x, _, rfl⟩ := hp; exact hi _
theorem vis_line (c : Cmd) (h : 0 ≤ c.verb ∧ c.verb ≤ 10) : vis (lineL c) := vis_join _ fun p hp => by
  rcases List.mem_cons.1 hp with rfl | hp
  · exact (vis_verb ⟨c.verb.toNat, by omega⟩).1
  · exact (vis_parts c p hp).1
theorem line_ne (c : Cmd) (h : 0 ≤ c.verb ∧ c.verb ≤ 10) : lineL c ≠ [] := by
  unfold lineL
  rw [joinB_cons]
  intro e
  exact (vis_verb ⟨c.verb.toNat, by omega⟩).2 (List.append_eq_nil_iff.1 e).1
theorem print_some {c : Cmd} {s : Bs} (h : printL c = some s) : fine c = true ∧ s = lineL c ∧ s.length ≤ 4096 ∧ vis s ∧ s ≠ [] := by
  unfold printL at h
  split at h
  · rename_i hf
    injection h with h
    subst h
    have hv := (fine_parts hf.1).1
    exact ⟨hf.1, rfl, hf.2, vis_line c hv, line_ne c hv⟩
  · cases h

/-- a text cut at every blank -/
def spl (cur : Bs) : Bs → List Bs
  | [] => [cur]
  | c :: s => if c = 32 then cur :: spl [] s else spl (cur ++ [c]) s
theorem cutL_spl (s : Bs) : ∀ cur, (∀ c ∈ s, c ≠ 34) → cutL cur false false s = spl cur s := by
  induction s with
  | nil => intro cur _; rfl
  | cons c s ih =>
    intro cur h
    have hc := h c List.mem_cons_self
    have hs : ∀ d ∈ s, d ≠ 34 := fun d hd => h d (List.mem_cons_of_mem _ hd)
    simp only [cutL, spl]
    by_cases h32 : c = 32
    · have : step false false c = none := by subst h32; decide
      rw [this, if_pos h32]
      simp only
      rw [ih _ hs]
    · have : step false false c = some (false, false) := by simp [step, hc, h32]
      rw [this, if_neg h32]
      exact ih _ hs
theorem spl_ne (s : Bs) : ∀ cur, spl cur s ≠ [] := by
  induction s with
  | nil => intro cur; simp [spl]
  | cons c s ih => intro cur; simp only [spl]; split <;> simp [ih]
theorem spl_blank (a b : Bs) : ∀ cur, spl cur (a ++ 32 :: b) = spl cur a ++ spl [] b := by
  induction a with
  | nil => intro cur; simp [spl]
  | cons c a ih =>
    intro cur
    simp only [List.cons_append, spl]
    split
    · rw [ih]; rfl
    · rw [ih]
theorem spl_front (b : Bs) : ∀ cur, ∃ q Y, spl [] b = q :: Y ∧ spl cur b = (cur ++ q) :: Y := by
  have key : ∀ (b : Bs) (x : Bs), ∃ q Y, spl x b = (x ++ q) :: Y ∧ ∀ cur, spl (cur ++ x) b = (cur ++ x ++ q) :: Y := by
    intro b
    induction b with
    | nil => intro x; exact ⟨[], [], by simp [spl], fun cur => by simp [spl]⟩
    | cons c b ih =>
      intro x
      by_cases h : c = 32
      · exact ⟨[], spl [] b, by simp [spl, h], fun cur => by simp [spl, h]⟩
      · obtain ⟨q, Y, h1, h2⟩ := ih (x ++ [c])
        refine ⟨c :: q, Y, ?_, fun cur => ?_⟩
        · simp only [spl, if_neg h]; rw [h1]; simp
        · simp only [spl, if_neg h]
          have := h2 cur
          rw [← List.append_assoc] at this
          rw [this]; simp
  intro cur
  obtain ⟨q, Y, h1, h2⟩ := key b []
  refine ⟨q, Y, by simpa using h1, ?_⟩
  have := h2 cur
  simpa using this
theorem spl_join (a b : Bs) : ∀ cur, ∃ X p q Y, spl cur a = X ++ [p] ∧ spl [] b = q :: Y ∧ spl cur (a ++ b) = X ++ (p ++ q) :: Y := by
  induction a with
  | nil =>
    intro cur
    obtain ⟨q, Y, h1, h2⟩ := spl_front b cur
    exact ⟨[], cur, q, Y, rfl, h1, h2⟩
  | cons c a ih =>
    intro cur
    simp only [List.cons_append, spl]
    split
    · obtain ⟨X, p, q, Y, h1, h2, h3⟩ := ih []
      exact ⟨cur :: X, p, q, Y, by rw [h1]; rfl, h2, by rw [h3]; rfl⟩
    · exact ih _
theorem no34 (c : Cmd) (h : 0 ≤ c.verb ∧ c.verb ≤ 10) (h2 : c.verb ≠ 2) : ∀ x ∈ lineL c, x ≠ 34 := by
  have hj : ∀ (l : List Bs), (∀ p ∈ l, ∀ x ∈ p, x ≠ (34 : UInt8)) → ∀ x ∈ joinB l, x ≠ 34 := by
    intro l
    induction l with
    | nil => intro _ x hx; cases hx
    | cons p l ih =>
      intro hl x hx
      rw [joinB_cons] at hx
      rcases List.mem_append.1 hx with hx | hx
      · exact hl p List.mem_cons_self x hx
      · obtain ⟨q, hq, hx⟩ := List.mem_flatMap.1 hx
        rcases List.mem_cons.1 hx with rfl | hx
        · decide
        · exact hl q (List.mem_cons_of_mem _ hq) x hx
  have hi : ∀ n, ∀ x ∈ itoa n, x ≠ (34 : UInt8) := fun n x hx e => by
    subst e
    rcases itoa_chars n 34 hx with h | h
    · exact absurd h.1 (by decide)
    · exact absurd h (by decide)
  have hw : ∀ v : Fin 11, ∀ x ∈ verbWords.getD v.val [], x ≠ (34 : UInt8) := by decide
  refine hj _ fun p hp => ?_
  rcases List.mem_cons.1 hp with rfl | hp
  · exact hw ⟨c.verb.toNat, by omega⟩
  unfold writeV at hp
  split at hp <;> simp only [List.mem_cons, List.not_mem_nil, or_false, List.mem_map] at hp
  · subst hp; exact hi _
  · subst hp; exact hi _
  · rename_i h22; exact (h2 (by omega)).elim
  · rcases hp with rfl | rfl
    · exact hi _
    · intro x hx e
      have := vis_raw c.raw x hx
      unfold rawL at hx
      split at hx
      · simp at hx; subst hx; exact absurd e (by decide)
      · obtain ⟨d, _, hd⟩ := List.mem_flatMap.1 hx
        have hh : ∀ a : Nat, a < 16 → hexd a ≠ 34 := by
          intro a ha
          have : ∀ a : Fin 16, hexd a.val ≠ 34 := by decide
          exact this ⟨a, ha⟩
        simp only [hexL, List.mem_cons, List.not_mem_nil, or_false] at hd
        rcases hd with rfl | rfl
        · exact hh _ (hex_lt d).1 e
        · exact hh _ (hex_lt d).2 e
  · subst hp; exact hi _
  · obtain ⟨x, _, rfl⟩ := hp; exact hi _
  · rcases hp with rfl | rfl <;> exact hi _
  · subst hp; exact hi _
  · obtain ⟨x, _, rfl⟩ := hp; exact hi _
theorem no_prefix : ∀ i j : Fin 11, ∀ k : Fin 6, (verbWords.getD j.val []).take k.val = verbWords.getD i.val [] → (verbWords.getD j.val []).drop k.val = [] := by decide
theorem verb_len : ∀ j : Fin 11, (verbWords.getD j.val []).length < 6 := by decide
/-- one blank more: only within a number of a list of picks -/
theorem blank_law (c : Cmd) (a b : Bs) (h2 : c.verb ≠ 2) (h : printL c = some (a ++ b)) (hd : parseL (a ++ 32 :: b) ≠ none) :
    (c.verb = 5 ∨ c.verb = 8) ∧ (∃ x, a.getLast? = some x ∧ x ≠ 32) ∧ (∃ y, b.head? = some y ∧ y ≠ 32) := by
  obtain ⟨hf, hs, _, _, _⟩ := print_some h
  cases hq : parseL (a ++ 32 :: b) with
  | none => exact (hd hq).elim
  | some d =>
    obtain ⟨hp, _, _⟩ := parseL_some hq
    obtain ⟨hfd, hsd, _, _, _⟩ := print_some hp
    have hv := (fine_parts hf).1
    have hvd := (fine_parts hfd).1
    have n1 := no34 c hv h2
    rw [← hs] at n1
    have n2 : ∀ x ∈ a ++ 32 :: b, x ≠ (34 : UInt8) := fun x hx => by
      rcases List.mem_append.1 hx with hx | hx
      · exact n1 x (List.mem_append_left _ hx)
      · rcases List.mem_cons.1 hx with rfl | hx
        · decide
        · exact n1 x (List.mem_append_right _ hx)
    have c1 := cut_line c hv
    rw [← hs, cutL_spl _ _ n1] at c1
    have c2 := cut_line d hvd
    rw [← hsd, cutL_spl _ _ n2, spl_blank] at c2
    obtain ⟨X, p, q, Y, e1, e2, e3⟩ := spl_join a b []
    rw [e3] at c1
    rw [e1, e2] at c2
    have ok : ∀ x ∈ X ++ [p] ++ q :: Y, x ≠ [] := by
      rw [c2]
      intro x hx
      rcases List.mem_cons.1 hx with rfl | hx
      · exact (vis_verb ⟨d.verb.toNat, by omega⟩).2
      · exact (vis_parts d x hx).2
    have hp0 : p ≠ [] := ok p (by simp)
    have hq0 : q ≠ [] := ok q (by simp)
    refine ⟨?_, ?_, ?_⟩
    · cases X with
      | nil =>
        simp only [List.nil_append, List.cons_append, List.cons.injEq] at c1 c2
        have hl := verb_len ⟨c.verb.toNat, by omega⟩
        simp only [← c1.1, List.length_append] at hl
        have := no_prefix ⟨d.verb.toNat, by omega⟩ ⟨c.verb.toNat, by omega⟩ ⟨p.length, by omega⟩ (by
          simp only [← c1.1, ← c2.1]; simp)
        simp only [← c1.1] at this
        simp at this
        exact (hq0 this).elim
      | cons x X =>
        simp only [List.cons_append, List.append_assoc, List.nil_append, List.cons.injEq] at c1 c2
        have hvv : d.verb = c.verb := by
          have := congrArg Fin.val (verbWords_inj ⟨d.verb.toNat, by omega⟩ ⟨c.verb.toNat, by omega⟩ (by simp only; rw [← c1.1, ← c2.1]))
          simp only at this
          omega
        have l1 := congrArg List.length c1.2
        have l2 := congrArg List.length c2.2
        simp only [List.length_append, List.length_cons] at l1 l2
        rcases int_cases11 c.verb hv with e | e | e | e | e | e | e | e | e | e | e
        all_goals first | (exact (h2 e).elim) | (exact Or.inl e) | (exact Or.inr e) | skip
        all_goals (simp only [writeV, hvv, e, Int.reduceToNat, List.length_cons, List.length_nil] at l1 l2; omega)
    · -- a ends in no blank
      have hla : ∀ (a : Bs) (cur : Bs) (X : List Bs) (p : Bs), spl cur a = X ++ [p] → p ≠ [] → (a = [] ∧ X = []) ∨ (∃ x, a.getLast? = some x ∧ x ≠ 32) := by
        intro a
        induction a with
        | nil =>
          intro cur X p h _
          simp only [spl] at h
          cases X with
          | nil => exact Or.inl ⟨rfl, rfl⟩
          | cons y X => simp at h
        | cons c a ih =>
          intro cur X p h hp
          right
          simp only [spl] at h
          split at h
          · cases X with
            | nil =>
              simp only [List.nil_append, List.cons.injEq] at h
              exact (spl_ne _ _ h.2).elim
            | cons y X =>
              simp only [List.cons_append, List.cons.injEq] at h
              rcases ih _ _ _ h.2 hp with ⟨rfl, rfl⟩ | ⟨x, hx, hne⟩
              · simp only [spl, List.nil_append, List.cons.injEq, and_true] at h
                exact (hp h.2.symm).elim
              · refine ⟨x, ?_, hne⟩
                rw [List.getLast?_cons]; simp [hx]
          · rename_i h32
            rcases ih _ _ _ h hp with ⟨rfl, rfl⟩ | ⟨x, hx, hne⟩
            · exact ⟨c, by simp, h32⟩
            · refine ⟨x, ?_, hne⟩
              rw [List.getLast?_cons]; simp [hx]
      rcases hla a [] X p e1 hp0 with ⟨rfl, rfl⟩ | hx
      · simp only [spl, List.nil_append, List.cons.injEq, and_true] at e1
        exact (hp0 e1.symm).elim
      · exact hx
    · cases b with
      | nil =>
        simp only [spl, List.cons.injEq] at e2
        exact (hq0 e2.1.symm).elim
      | cons y b =>
        refine ⟨y, rfl, ?_⟩
        intro e
        simp only [spl, if_pos e, List.cons.injEq] at e2
        exact hq0 e2.1.symm
end Go.Proofs.YtepalbldleegiaaGreatDoor.sh
