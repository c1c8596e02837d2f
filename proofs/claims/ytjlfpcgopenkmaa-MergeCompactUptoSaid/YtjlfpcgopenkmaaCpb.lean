/-
  Rows of records in memory, and merge's young and rise walked.
  Conditions: the rows lie below the heap's end; numbers are int64.
-/
import Derived.Test.YtjlfpcgopenkmaaCpa
import Derived.Test.YtjlfpcgopenkmaaMem
import Derived.Lib.Hide
namespace Go.Proofs.Ytjlfpcgopenkmaa.cp
open Go.RowKit

def I64 (x : Int) : Prop := -9223372036854775808 ≤ x ∧ x ≤ 9223372036854775807
def Rc.ok (r : Rc) : Prop := I64 r.kind ∧ I64 r.off ∧ I64 r.time ∧ I64 r.pid ∧ I64 r.seq ∧ r.key.size ≤ maxLen ∧ r.val.size ≤ maxLen
def RcL (r : Rc) : List Value := [.int .i64 r.kind, .int .i64 r.off, .int .i64 r.time, .int .i64 r.pid, .int .i64 r.seq, .string r.key, .string r.val]
theorem RcL_len (r : Rc) : (RcL r).length = 7 := rfl
theorem RcL_one (r : Rc) : ∀ u ∈ RcL r, u.oneCell' = true := by
  intro u hu
  simp only [RcL, List.mem_cons, List.not_mem_nil, or_false] at hu
  rcases hu with rfl | rfl | rfl | rfl | rfl | rfl | rfl <;> rfl
/-- a row of records, nil let in -/
def Recs (w : World) (B : Nat) (A : Option Addr) (l : List Rc) : Prop :=
  l ≠ [] → ∃ b off, A = some ⟨b, off, none⟩ ∧ b < B ∧ ∀ i r, l[i]? = some r → ∀ j v, (RcL r)[j]? = some v → w.cell? ⟨b, off + i * 7 + j, none⟩ = some v
theorem Recs.below {w w' : World} {B : Nat} {A : Option Addr} {l : List Rc} (h : Recs w B A l) (hb : Below B w w') : Recs w' B A l := fun hn => by
  obtain ⟨b, off, e, hB, hc⟩ := h hn
  exact ⟨b, off, e, hB, fun i r hi j v hv => (hb.cell (p := ⟨b, off + i * 7 + j, none⟩) hB).trans (hc i r hi j v hv)⟩
theorem Recs.mono {w : World} {B B' : Nat} {A : Option Addr} {l : List Rc} (h : Recs w B A l) (hB : B ≤ B') : Recs w B' A l := fun hn => by
  obtain ⟨b, off, e, hb, hc⟩ := h hn
  exact ⟨b, off, e, by omega, hc⟩
/-- one record's cells, as a list to be loaded -/
theorem Recs.at_ {w : World} {B : Nat} {A : Option Addr} {l : List Rc} (h : Recs w B A l) {k : Nat} (hk : k < l.length) :
    ∃ b off, A = some ⟨b, off, none⟩ ∧ b < B ∧ ∀ j v, (RcL l[k])[j]? = some v → w.cell? ((⟨b, off + k * 7, none⟩ : Addr).add j) = some v := by
  obtain ⟨b, off, e, hB, hc⟩ := h (by intro e; subst e; simp at hk)
  exact ⟨b, off, e, hB, fun j v hv => by rw [add_flat]; exact hc k _ (List.getElem?_eq_getElem hk) j v hv⟩
theorem take_snoc' (l : List Rc) (k : Nat) (h : k < l.length) : l.take (k + 1) = l.take k ++ [l[k]] := by
  rw [List.take_succ_eq_append_getElem h]

theorem ret_bool {a b : Bool} (h : a = b) : Ending.returned (.bool a) = .returned (.bool b) := by rw [h]
theorem young_any (now time hor : Int) (w : World) (t0 : -9223372036854775808 ≤ time) (t1 : time ≤ 9223372036854775807) (r0 : 0 ≤ hor) (r1 : hor ≤ 1099511627776) :
    Calls Try.prog 25 #[.int .i64 now, .int .i64 time, .int .i64 hor] w fun e w' => e = .returned (.bool (youngB now time hor)) ∧ w = w' := by
  by_cases c : 0 < time
  · by_cases d : 9223372036854775807 - time < hor
    · go_enter Try.func25, Try.ntmps25
      go_wp2
      go_ret
      exact ⟨ret_bool (by unfold youngB; rw [decide_eq_true (by omega : 0 < time), decide_eq_true (by omega : 9223372036854775807 - time < hor)]; rfl), rfl⟩
    · go_enter Try.func25, Try.ntmps25
      go_wp2
      all_goals
        go_ret
        exact ⟨ret_bool (by unfold youngB; rw [decide_eq_false (by omega : ¬ 9223372036854775807 - time < hor)]; simp), rfl⟩
  · go_enter Try.func25, Try.ntmps25
    go_wp2
    all_goals
      go_ret
      exact ⟨ret_bool (by unfold youngB; rw [decide_eq_false (by omega : ¬ 0 < time)]; simp), rfl⟩

def lastO (l : List Rc) : Int := ((l.map (·.off)).getLast?).getD (-1)
theorem lastO_snoc (l : List Rc) (r : Rc) : lastO (l ++ [r]) = r.off := by simp [lastO]
theorem rise_step {l : List Rc} {r : Rc} (h : riseP (-1) l = true) (h2 : lastO l < r.off) (h3 : r.off < 1099511627776) : riseP (-1) (l ++ [r]) = true := by
  rw [riseP_append, h]
  have : riseP (lastO l) [r] = true := by
    simp only [riseP]; rw [if_neg (by omega)]
  exact this
theorem rise_stop {l t : List Rc} {r : Rc} (h2 : r.off ≤ lastO l ∨ 1099511627776 ≤ r.off) : riseP (-1) (l ++ r :: t) = false := by
  rw [riseP_append]
  have : riseP (lastO l) (r :: t) = false := by
    simp only [riseP]; rw [if_pos h2]
  unfold lastO at this
  rw [this]; simp
theorem rise_pre {l t : List Rc} (h : riseP (-1) (l ++ t) = true) : riseP (-1) l = true := by
  rw [riseP_append, Bool.and_eq_true] at h; exact h.1
end Go.Proofs.Ytjlfpcgopenkmaa.cp
