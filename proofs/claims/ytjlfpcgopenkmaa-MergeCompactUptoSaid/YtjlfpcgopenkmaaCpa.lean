/-
  Plain law of Compact: what the program keeps (by a map of each key's last offset) is what the document keeps (by looking at all pairs).
  Conditions: none.
-/
namespace Go.Proofs.Ytjlfpcgopenkmaa.cp

structure Rc where
  kind : Int
  off : Int
  time : Int
  pid : Int
  seq : Int
  key : ByteArray
  val : ByteArray

/-- the program's look at the offsets -/
def riseP (last : Int) : List Rc → Bool
  | [] => true
  | r :: l => if r.off ≤ last ∨ 1099511627776 ≤ r.off then false else riseP r.off l

/-- the document's look at the offsets: the last offset, and whether all is right -/
def riseR (last : Int) (first : Bool) : List Rc → Int × Bool
  | [] => (last, true)
  | r :: l => if r.off < 0 ∨ 1099511627776 ≤ r.off ∨ (first = false ∧ r.off ≤ last) then (last, false) else riseR r.off false l

theorem riseR_false (l : List Rc) : ∀ (last : Int), 0 ≤ last → (riseR last false l).2 = riseP last l := by
  induction l with
  | nil => intro last _; rfl
  | cons r l ih =>
    intro last h
    unfold riseR riseP
    by_cases c : r.off ≤ last ∨ 1099511627776 ≤ r.off
    · rw [if_pos c, if_pos (by simp; omega)]
    · rw [if_neg c, if_neg (by simp; omega)]
      exact ih _ (by omega)

theorem riseR_true (l : List Rc) (z : Int) : (riseR z true l).2 = riseP (-1) l := by
  cases l with
  | nil => rfl
  | cons r l =>
    unfold riseR riseP
    by_cases c : r.off ≤ -1 ∨ 1099511627776 ≤ r.off
    · rw [if_pos c, if_pos (by simp; omega)]
    · rw [if_neg c, if_neg (by simp; omega)]
      exact riseR_false l _ (by omega)

theorem riseP_append (a b : List Rc) : ∀ last, riseP last (a ++ b) = (riseP last a && riseP ((a.map (·.off)).getLast?.getD last) b) := by
  induction a with
  | nil => intro last; simp [riseP]
  | cons r a ih =>
    intro last
    simp only [List.cons_append, riseP]
    by_cases c : r.off ≤ last ∨ 1099511627776 ≤ r.off
    · simp [c]
    · simp only [if_neg c, ih]
      congr 2
      simp [List.getLast?_cons]

theorem riseR_last (a : List Rc) : ∀ (last : Int) (first : Bool), (riseR last first a).2 = true → (riseR last first a).1 = (a.map (·.off)).getLast?.getD last := by
  induction a with
  | nil => intro last first _; rfl
  | cons r a ih =>
    intro last first h
    unfold riseR at h ⊢
    by_cases c : r.off < 0 ∨ 1099511627776 ≤ r.off ∨ (first = false ∧ r.off ≤ last)
    · rw [if_pos c] at h; simp at h
    · rw [if_neg c] at h ⊢
      rw [ih _ _ h]
      simp [List.getLast?_cons]

/-- both looks are one -/
theorem rise_same (a b : List Rc) : riseP (-1) (a ++ b) = ((riseR 0 true a).2 && (riseR (riseR 0 true a).1 (decide (a.length = 0)) b).2) := by
  rw [riseP_append, riseR_true]
  cases hA : riseP (-1) a with
  | false => simp
  | true =>
    simp only [Bool.true_and]
    have h2 : (riseR 0 true a).2 = true := by rw [riseR_true]; exact hA
    rw [riseR_last a 0 true h2]
    cases a with
    | nil => simp [riseR_true]
    | cons r a =>
      have hne : (decide ((r :: a).length = 0)) = false := by simp
      rw [hne]
      have hge : ∀ (l : List Rc) (x : Int), riseP x l = true → x ≤ (l.map (·.off)).getLast?.getD x := by
        intro l
        induction l with
        | nil => intro x _; simp
        | cons s l ih =>
          intro x hx
          unfold riseP at hx
          by_cases c : s.off ≤ x ∨ 1099511627776 ≤ s.off
          · rw [if_pos c] at hx; cases hx
          · rw [if_neg c] at hx
            have := ih _ hx
            simp only [List.map_cons, List.getLast?_cons, Option.getD_some]
            omega
      have hr : 0 ≤ r.off := by
        unfold riseP at hA
        by_cases c : r.off ≤ -1 ∨ 1099511627776 ≤ r.off
        · rw [if_pos c] at hA; cases hA
        · omega
      have hA' : riseP r.off a = true := by
        unfold riseP at hA
        by_cases c : r.off ≤ -1 ∨ 1099511627776 ≤ r.off
        · rw [if_pos c] at hA; cases hA
        · rw [if_neg c] at hA; exact hA
      have := hge a r.off hA'
      rw [riseR_false]
      · simp [List.getLast?_cons]
      · simp only [List.map_cons, List.getLast?_cons, Option.getD_some]; omega

def youngB (now time hor : Int) : Bool := (decide (0 < time) && decide (9223372036854775807 - time < hor)) || decide (now < time + hor)

/-- does the record stay, if it is its key's last one? -/
def stays (now hor : Int) (r : Rc) : Bool := decide (r.kind ≠ 2) || youngB now r.time hor

/-- the last offset of a key in a list, as the program's map has it (0: none) -/
def lastOff (k : List UInt8) (l : List Rc) : Option Int := ((l.filter fun r => r.key.data.toList == k).map (·.off)).getLast?

/-- is no later record of that key there? -/
def noLater (k : List UInt8) (l : List Rc) : Bool := l.all fun r => !(r.key.data.toList == k)

/-- the program's choice: the newest offset is asked of the map -/
def keepP (all : List Rc) (now hor : Int) (acc : List Rc) (mark : Int) : List Rc → List Rc × Int
  | [] => (acc, mark)
  | r :: l => if (lastOff r.key.data.toList all).getD 0 ≠ r.off then keepP all now hor acc mark l
    else if stays now hor r then keepP all now hor (acc ++ [r]) mark l
    else keepP all now hor acc (r.off + 1) l

/-- the document's choice: all later records are asked -/
def keepR (later : List Rc) (now hor : Int) (acc : List Rc) (mark : Int) : List Rc → List Rc × Int
  | [] => (acc, mark)
  | r :: l => if noLater r.key.data.toList (l ++ later) = false then keepR later now hor acc mark l
    else if stays now hor r then keepR later now hor (acc ++ [r]) mark l
    else keepR later now hor acc (if mark < r.off + 1 then r.off + 1 else mark) l

theorem lastOff_append (k : List UInt8) (a b : List Rc) : lastOff k (a ++ b) = (lastOff k b).or (lastOff k a) := by
  simp [lastOff, List.getLast?_append]

theorem riseP_gt (l : List Rc) : ∀ x, riseP x l = true → ∀ r ∈ l, x < r.off := by
  induction l with
  | nil => intro x _ r hr; cases hr
  | cons s l ih =>
    intro x hx r hr
    unfold riseP at hx
    by_cases c : s.off ≤ x ∨ 1099511627776 ≤ s.off
    · rw [if_pos c] at hx; cases hx
    · rw [if_neg c] at hx
      rcases List.mem_cons.1 hr with rfl | h
      · omega
      · have := ih _ hx r h; omega

theorem lastOff_mem {k : List UInt8} {l : List Rc} {o : Int} (h : lastOff k l = some o) : ∃ r ∈ l, (r.key.data.toList == k) = true ∧ r.off = o := by
  unfold lastOff at h
  have := List.mem_of_getLast? h
  obtain ⟨r, hr, e⟩ := List.mem_map.1 this
  obtain ⟨h1, h2⟩ := List.mem_filter.1 hr
  exact ⟨r, h1, h2, e⟩

theorem lastOff_none {k : List UInt8} {l : List Rc} : lastOff k l = none ↔ noLater k l = true := by
  unfold lastOff noLater
  rw [List.getLast?_eq_none_iff, List.map_eq_nil_iff, List.filter_eq_nil_iff, List.all_eq_true]
  constructor <;> intro h x hx <;> have := h x hx <;> simp_all


theorem keep_same (later : List Rc) (now hor : Int) (sealed : List Rc) : ∀ (pre : List Rc) (acc : List Rc) (mark : Int), riseP (-1) (pre ++ sealed ++ later) = true → (∀ r ∈ sealed, mark < r.off + 1) →
    keepP (pre ++ sealed ++ later) now hor acc mark sealed = keepR later now hor acc mark sealed := by
  induction sealed with
  | nil => intro pre acc mark _ _; rfl
  | cons r l ih =>
    intro pre acc mark hr hm
    have e : pre ++ r :: l ++ later = (pre ++ [r]) ++ l ++ later := by simp
    have hone : lastOff r.key.data.toList [r] = some r.off := by simp [lastOff]
    have hlast : lastOff r.key.data.toList (pre ++ r :: l ++ later) = (lastOff r.key.data.toList (l ++ later)).or (some r.off) := by
      rw [show pre ++ r :: l ++ later = (pre ++ [r]) ++ (l ++ later) by simp, lastOff_append _ (pre ++ [r]), lastOff_append _ pre, hone, Option.some_or]
    have hgt : ∀ s ∈ l ++ later, r.off < s.off := by
      have h := hr
      rw [show pre ++ r :: l ++ later = pre ++ (r :: (l ++ later)) by simp, riseP_append, Bool.and_eq_true] at h
      have h2 := h.2
      unfold riseP at h2
      split at h2
      · cases h2
      · exact riseP_gt _ _ h2
    have hm' : ∀ s ∈ l, mark < s.off + 1 := fun s hs => hm s (List.mem_cons_of_mem _ hs)
    have hm'' : ∀ s ∈ l, r.off + 1 < s.off + 1 := fun s hs => by have := hgt s (List.mem_append_left _ hs); omega
    have hmr := hm r List.mem_cons_self
    unfold keepP keepR
    rw [hlast]
    cases hn : noLater r.key.data.toList (l ++ later) with
    | true =>
      rw [lastOff_none.2 hn]
      simp only [Option.none_or, Option.getD_some, ne_eq, not_true_eq_false, if_false, Bool.true_eq_false, if_pos hmr]
      split
      · rw [e]; exact ih _ _ _ (by rw [← e]; exact hr) hm'
      · rw [e]; exact ih _ _ _ (by rw [← e]; exact hr) hm''
    | false =>
      cases hq : lastOff r.key.data.toList (l ++ later) with
      | none => rw [lastOff_none.1 hq] at hn; cases hn
      | some o =>
        obtain ⟨s, hs, _, ho⟩ := lastOff_mem hq
        have := hgt s hs
        have hne : o ≠ r.off := by omega
        simp only [Option.some_or, Option.getD_some, ne_eq, hne, not_false_eq_true, if_true]
        rw [e]; exact ih _ _ _ (by rw [← e]; exact hr) hm'
end Go.Proofs.Ytjlfpcgopenkmaa.cp
