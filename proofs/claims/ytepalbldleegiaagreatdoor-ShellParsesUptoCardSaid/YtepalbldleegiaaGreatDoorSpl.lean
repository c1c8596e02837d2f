/-
  Plain words: what is read out of parts is within the bounds that Print wants.
  Conditions: parts of at most 4096 bytes, at most 4097 of them.
-/
import Derived.Test.YtepalbldleegiaaGreatDoorSpk
import Derived.Test.YtepalbldleegiaaGreatDoorShe
namespace Go.Proofs.YtepalbldleegiaaGreatDoor.sh
open Go.RowKit
open Go.Lib (itoa decDigits byteCells atoiAll)

theorem unesc_len : ∀ (n : Nat) (s t : Bs), s.length ≤ n → unesc s = some t → t.length ≤ s.length
  | _, [], t, _, h => by simp only [unesc, Option.some.injEq] at h; subst h; exact Nat.le_refl _
  | 0, c :: s, _, hn, _ => by simp at hn
  | n + 1, c :: s, t, hn, h => by
    by_cases hc : c = 92
    · subst hc
      match s, hn, h with
      | [], _, h => simp [unesc] at h
      | d :: s', hn, h =>
        by_cases hx : d = 120 ∧ 2 ≤ s'.length
        · obtain ⟨rfl, hx2⟩ := hx
          match s', hx2, hn, h with
          | a :: b :: s'', _, hn, h =>
            simp only [unesc, Option.bind_eq_some_iff, Option.map_eq_some_iff] at h
            obtain ⟨x, -, u, hu, rfl⟩ := h
            have := unesc_len n s'' u (by simp only [List.length_cons] at hn; omega) hu
            simp only [List.length_cons]; omega
        · rw [unesc_d d s' (by
            by_cases hd : d = 120
            · exact Or.inr (Nat.lt_of_not_le fun h2 => hx ⟨hd, h2⟩)
            · exact Or.inl hd), Option.map_eq_some_iff] at h
          obtain ⟨u, hu, rfl⟩ := h
          have := unesc_len n s' u (by simp only [List.length_cons] at hn; omega) hu
          simp only [List.length_cons]; omega
    · rw [unesc_other c s hc, Option.map_eq_some_iff] at h
      obtain ⟨u, hu, rfl⟩ := h
      have := unesc_len n s u (by simp only [List.length_cons] at hn; omega) hu
      simp only [List.length_cons]; omega
theorem readT_len {s t : Bs} (h : readT s = some t) : t.length ≤ s.length := by
  unfold readT at h
  split at h
  · injection h with h; subst h; exact Nat.le_refl _
  · split at h
    · cases h
    · have := unesc_len _ _ _ (Nat.le_refl _) h
      rw [List.length_dropLast, List.length_drop] at this
      omega
def lensR (r : Req) : Prop := (0 ≤ r.op ∧ r.op ≤ 15) ∧ r.topic.length ≤ 4096 ∧ r.key.length ≤ 4096 ∧ r.value.length ≤ 4096
theorem readF_lens {r r' : Req} {p : Bs} {f : Fd} (hr : lensR r) (hp : p.length ≤ 4096) (h : readF r p f = some r') : lensR r' := by
  obtain ⟨h0, h1, h2, h3⟩ := hr
  cases f <;> simp only [readF, Option.map_eq_some_iff] at h <;> obtain ⟨x, hx, rfl⟩ := h
  · exact ⟨h0, Nat.le_trans (readT_len hx) hp, h2, h3⟩
  · exact ⟨h0, h1, Nat.le_trans (readT_len hx) hp, h3⟩
  · exact ⟨h0, h1, h2, Nat.le_trans (readT_len hx) hp⟩
  all_goals exact ⟨h0, h1, h2, h3⟩
theorem readFs_lens : ∀ (fs : List Fd) (ps : List Bs) (r : Req) (x : Req × List Bs), lensR r → (∀ p ∈ ps, p.length ≤ 4096) → readFs r fs ps = some x → lensR x.1
  | [], _, r, x, hr, _, h => by simp only [readFs, Option.some.injEq] at h; subst h; exact hr
  | _ :: _, [], _, _, _, _, h => by simp [readFs] at h
  | f :: fs, p :: ps, r, x, hr, hp, h => by
    simp only [readFs, Option.bind_eq_some_iff] at h
    obtain ⟨r', h1, h2⟩ := h
    exact readFs_lens fs ps r' x (readF_lens hr (hp p (by simp)) h1) (fun q hq => hp q (List.mem_cons_of_mem _ hq)) h2
theorem findW_lt : ∀ (ws : List Bs) (p : Bs) (k n : Nat), findW p ws k = some n → k ≤ n ∧ n < k + ws.length
  | [], _, _, _, h => by cases h
  | x :: ws, p, k, n, h => by
    simp only [findW] at h
    split at h
    · injection h with h; subst h; simp
    · have := findW_lt ws p (k + 1) n h
      simp only [List.length_cons]; omega
theorem requestP_lens {ps : List Bs} {x : Req × List Bs} (hp : ∀ p ∈ ps, p.length ≤ 4096) (h : requestP ps = some x) : lensR x.1 := by
  match ps, hp, h with
  | i :: w :: rest, hp, h =>
    simp only [requestP, Option.bind_eq_some_iff] at h
    obtain ⟨id, -, h⟩ := h
    split at h
    · cases h
    · rw [Option.bind_eq_some_iff] at h
      obtain ⟨op, ho, h⟩ := h
      have hop := findW_lt opWords w 1 op ho
      have hop' : op < 1 + 15 := hop.2
      refine readFs_lens _ rest _ x ⟨⟨by simp only; omega, by simp only; omega⟩, ?_, ?_, ?_⟩ (fun q hq => hp q (by simp [hq])) h <;> exact Nat.zero_le _
theorem picksP_len : ∀ (ps : List Bs) (l : List Int), picksP ps = some l → l.length = ps.length
  | [], l, h => by simp only [picksP, Option.some.injEq] at h; subst h; rfl
  | p :: ps, l, h => by
    simp only [picksP, Option.bind_eq_some_iff, Option.map_eq_some_iff] at h
    obtain ⟨n, -, t, ht, rfl⟩ := h
    simp [picksP_len ps t ht]
def lensC (c : Cmd) : Prop := (0 ≤ c.verb ∧ c.verb ≤ 10) ∧ lensR c.req ∧ c.raw.length ≤ 4096 ∧ c.picks.length ≤ 4097
theorem lens0 : lensR req0 := by unfold lensR req0; decide
theorem verbP_lens {v : Nat} (hv : v < 11) {ps : List Bs} {x : Cmd × List Bs} (hp : ∀ p ∈ ps, p.length ≤ 4096) (hn : ps.length ≤ 4097) (h : verbP v ps = some x) : lensC x.1 := by
  have hvv : (0 : Int) ≤ (v : Int) ∧ (v : Int) ≤ 10 := by omega
  rcases (by omega : (v = 0 ∨ v = 1) ∨ v = 2 ∨ v = 3 ∨ (v = 4 ∨ v = 7) ∨ (v = 5 ∨ v = 8) ∨ v = 6 ∨ (v = 9 ∨ v = 10)) with h0 | rfl | rfl | h4 | h5 | rfl | h9
  · rw [vp0 v h0, Option.map_eq_some_iff] at h
    obtain ⟨y, -, rfl⟩ := h
    exact ⟨hvv, lens0, Nat.zero_le _, Nat.zero_le _⟩
  · rw [vp2, Option.bind_eq_some_iff] at h
    obtain ⟨y, hy, h⟩ := h
    rw [Option.map_eq_some_iff] at h
    obtain ⟨z, hz, rfl⟩ := h
    obtain ⟨p0, hp0⟩ := labelR_tail (n := y.1) (r := y.2) hy
    exact ⟨hvv, requestP_lens (fun q hq => hp q (by rw [hp0]; exact List.mem_cons_of_mem _ hq)) hz, Nat.zero_le _, Nat.zero_le _⟩
  · rw [vp3, Option.bind_eq_some_iff] at h
    obtain ⟨y, hy, h⟩ := h
    rw [Option.map_eq_some_iff] at h
    obtain ⟨z, hz, rfl⟩ := h
    obtain ⟨p0, hp0⟩ := labelR_tail (n := y.1) (r := y.2) hy
    refine ⟨hvv, lens0, ?_, Nat.zero_le _⟩
    cases hy2 : y.2 with
    | nil => rw [hy2] at hz; cases hz
    | cons b r =>
      rw [hy2] at hz
      simp only [bytesR, Option.map_eq_some_iff] at hz
      obtain ⟨t, ht, rfl⟩ := hz
      have hb : b.length ≤ 4096 := hp b (by rw [hp0, hy2]; simp)
      simp only
      unfold bytesP at ht
      split at ht
      · injection ht with ht; subst ht; exact Nat.zero_le _
      · have := bytesL_even b t ht; omega
  · rw [vp4 v h4, Option.map_eq_some_iff] at h
    obtain ⟨y, -, rfl⟩ := h
    exact ⟨hvv, lens0, Nat.zero_le _, Nat.zero_le _⟩
  · rw [vp5 v h5, Option.map_eq_some_iff] at h
    obtain ⟨y, hy, rfl⟩ := h
    exact ⟨hvv, lens0, Nat.zero_le _, by rw [show (({ cmd0 with verb := v, picks := y } : Cmd), ([] : List Bs)).1.picks = y from rfl, picksP_len ps y hy]; exact hn⟩
  · rw [vp6, Option.bind_eq_some_iff] at h
    obtain ⟨y, hy, h⟩ := h
    rw [Option.map_eq_some_iff] at h
    obtain ⟨z, hz, rfl⟩ := h
    exact ⟨hvv, lens0, Nat.zero_le _, Nat.zero_le _⟩
  · rw [vp9 v h9, Option.some.injEq] at h
    subst h
    exact ⟨hvv, lens0, Nat.zero_le _, Nat.zero_le _⟩
theorem command_lens {ps : List Bs} {c : Cmd} (hp : ∀ p ∈ ps, p.length ≤ 4096) (hn : ps.length ≤ 4097) (h : commandP ps = some c) : lensC c := by
  cases ps with
  | nil => cases h
  | cons w r =>
    simp only [commandP, Option.bind_eq_some_iff] at h
    obtain ⟨v, hv, x, hx, h⟩ := h
    split at h
    · injection h with h
      subst h
      exact verbP_lens (findW_lt _ _ _ _ hv).2 (fun q hq => hp q (List.mem_cons_of_mem _ hq)) (by simp only [List.length_cons] at hn; omega) hx
    · cases h
theorem cmdI_of {c : Cmd} (h : ints c) (hl : lensC c) : cmdI c := by
  obtain ⟨hid, hi⟩ := h
  obtain ⟨hv, ⟨ho, h1, h2, h3⟩, hr, hp⟩ := hl
  refine ⟨⟨by omega, by omega⟩, hi c.conn (by simp), hi c.n (by simp), ⟨by omega, by omega⟩, ⟨hi _ (by simp), hi _ (by simp), hi _ (by simp), hi _ (by simp)⟩, ⟨hid.1, by omega⟩, fun x hx => hi x (List.mem_append_right _ hx), by omega, by omega, by omega, by omega, by omega⟩
theorem cutL_lens : ∀ (s : Bs) (cur : Bs) (q e : Bool), (cutL cur q e s).length ≤ s.length + 1 ∧ ∀ p ∈ cutL cur q e s, p.length ≤ cur.length + s.length
  | [], cur, q, e => by simp [cutL]
  | c :: s, cur, q, e => by
    simp only [cutL]
    split
    · rename_i q' e' _
      have := cutL_lens s (cur ++ [c]) q' e'
      refine ⟨by simp only [List.length_cons]; omega, fun p hp => ?_⟩
      have := this.2 p hp
      simp only [List.length_append, List.length_cons, List.length_nil] at this ⊢
      omega
    · have := cutL_lens s [] false false
      refine ⟨by simp only [List.length_cons]; omega, fun p hp => ?_⟩
      rcases List.mem_cons.1 hp with rfl | hp
      · omega
      · have := this.2 p hp
        simp only [List.length_cons, List.length_nil] at this ⊢
        omega
end Go.Proofs.YtepalbldleegiaaGreatDoor.sh
