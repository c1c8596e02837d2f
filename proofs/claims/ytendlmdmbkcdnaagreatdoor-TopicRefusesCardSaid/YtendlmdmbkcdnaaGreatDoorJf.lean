/-
  Texts of the proof joined by a program: Rcb.
-/
import Derived.Test.YtendlmdmbkcdnaaGreatDoorJe
set_option linter.unusedSimpArgs false
set_option linter.unusedVariables false
namespace Go.Proofs.YtendlmdmbkcdnaaGreatDoor.rc
open Go.RowKit oc sq
set_option maxRecDepth 100000
theorem empty_of {s : ByteArray} (h : s.size = 0) : s = ByteArray.empty := by
 obtain ⟨d⟩ := s
 have : d = #[] := Array.eq_empty_of_size_eq_zero h
 subst this
 rfl
theorem full_of {s : ByteArray} (h : 0 < s.size) : s.toList.isEmpty = false := by
 rw [ByteArray.toList_eq, List.isEmpty_eq_false_iff]
 intro e
 have : s.data.toList.length = s.size := by simp
 rw [e] at this
 simp at this
 omega
structure Rc where
 kind : Int
 off : Int
 time : Int
 pid : Int
 seq : Int
 key : ByteArray
 val : ByteArray
def Rc.cells (r : Rc) : Array Value := #[.int .i64 r.kind, .int .i64 r.off, .int .i64 r.time, .int .i64 r.pid, .int .i64 r.seq, .string r.key, .string r.val]
def wi (v lo hi : Int) : Bool := decide (lo ≤ v) && decide (v < hi)
set_option maxHeartbeats 2000000 in
theorem within_any (w : World) (v lo hi : Int) : Calls Tryz.prog 53 #[.int .i64 v, .int .i64 lo, .int .i64 hi] w fun e w' => e = .returned (.bool (wi v lo hi)) ∧ w' = w := by
 go_enter Tryz.func53, Tryz.ntmps53
 by_cases h1 : lo ≤ v
 · have g1 : decide (lo ≤ v) = true := decide_eq_true h1
   go_wp2_with fail
   go_ret
   simp [wi, h1]
 · have g1 : decide (lo ≤ v) = false := decide_eq_false h1
   go_wp2_with fail
   go_ret
   exact ⟨by simp only [wi, g1, Bool.false_and]; rfl, rfl⟩
theorem within_is (v lo hi : Int) (b : Bool) (h : wi v lo hi = b) (w : World) : Calls Tryz.prog 53 #[.int .i64 v, .int .i64 lo, .int .i64 hi] w fun e w' => e = .returned (.bool b) ∧ w' = w := by
 rw [← h]
 exact within_any w v lo hi
def checkN (r : Rc) : Int :=
 if r.kind ≠ 1 ∧ r.kind ≠ 2 then 44
 else if wi r.off 0 1099511627776 = false then 45
 else if wi r.time 0 1125899906842624 = false then 45
 else if wi r.pid 0 4294967296 = false then 45
 else if r.pid = 0 ∧ r.seq ≠ 0 then 45
 else if r.pid ≠ 0 ∧ wi r.seq 1 1099511627776 = false then 45
 else if r.key.size < 1 ∨ 64 < r.key.size then 42
 else if 1024 < r.val.size then 43
 else if r.kind = 2 ∧ 0 < r.val.size then 43
 else 0
set_option maxHeartbeats 4000000 in
theorem check1 (w : World) (off time pid seq : Int) (key val : ByteArray) : Calls Tryz.prog 15 #[.agg (Rc.cells ⟨1, off, time, pid, seq, key, val⟩)] w fun e w' => e = .returned (.int .i64 (checkN ⟨1, off, time, pid, seq, key, val⟩)) ∧ Below w.heap.size w w' := by
 unfold Rc.cells
 go_enter Tryz.func15, Tryz.ntmps15
 rcases hof : wi off 0 1099511627776 with _ | _
 · have Wof := within_is off 0 1099511627776 _ hof
   go_wp2_with (first | (go_at_call 53; (first | with_reducible refine (Wof _).mono ?_); rintro e w1 ⟨rfl, rfl⟩) | fail)
   go_ret
   exact ⟨by simp [checkN, hof], (Below.refl _ _).alloc (Nat.le_refl _) _⟩
 · have Wof := within_is off 0 1099511627776 _ hof
   rcases htm : wi time 0 1125899906842624 with _ | _
   · have Wtm := within_is time 0 1125899906842624 _ htm
     go_wp2_with (first | (go_at_call 53; (first | with_reducible refine (Wof _).mono ?_ | with_reducible refine (Wtm _).mono ?_); rintro e w1 ⟨rfl, rfl⟩) | fail)
     go_ret
     exact ⟨by simp [checkN, hof, htm], (Below.refl _ _).alloc (Nat.le_refl _) _⟩
   · have Wtm := within_is time 0 1125899906842624 _ htm
     rcases hpd : wi pid 0 4294967296 with _ | _
     · have Wpd := within_is pid 0 4294967296 _ hpd
       go_wp2_with (first | (go_at_call 53; (first | with_reducible refine (Wof _).mono ?_ | with_reducible refine (Wtm _).mono ?_ | with_reducible refine (Wpd _).mono ?_); rintro e w1 ⟨rfl, rfl⟩) | fail)
       go_ret
       exact ⟨by simp [checkN, hof, htm, hpd], (Below.refl _ _).alloc (Nat.le_refl _) _⟩
     · have Wpd := within_is pid 0 4294967296 _ hpd
       by_cases hp : pid = 0
       · subst hp
         by_cases hs : seq = 0
         · subst hs
           by_cases hk1 : key.size < 1
           · have gk1 : decide ((key.size : Int) < 1) = true := decide_eq_true (by omega)
             go_wp2_with (first | (go_at_call 53; (first | with_reducible refine (Wof _).mono ?_ | with_reducible refine (Wtm _).mono ?_ | with_reducible refine (Wpd _).mono ?_); rintro e w1 ⟨rfl, rfl⟩) | fail)
             go_ret
             exact ⟨by simp [checkN, hof, htm, hpd, hk1], (Below.refl _ _).alloc (Nat.le_refl _) _⟩
           · have gk1 : decide ((key.size : Int) < 1) = false := decide_eq_false (by omega)
             by_cases hk2 : 64 < key.size
             · have gk2 : decide ((64 : Int) < (key.size : Int)) = true := decide_eq_true (by omega)
               go_wp2_with (first | (go_at_call 53; (first | with_reducible refine (Wof _).mono ?_ | with_reducible refine (Wtm _).mono ?_ | with_reducible refine (Wpd _).mono ?_); rintro e w1 ⟨rfl, rfl⟩) | fail)
               go_ret
               exact ⟨by simp [checkN, hof, htm, hpd, hk2], (Below.refl _ _).alloc (Nat.le_refl _) _⟩
             · have gk2 : decide ((64 : Int) < (key.size : Int)) = false := decide_eq_false (by omega)
               by_cases hv : 1024 < val.size
               · have gv : decide ((1024 : Int) < (val.size : Int)) = true := decide_eq_true (by omega)
                 go_wp2_with (first | (go_at_call 53; (first | with_reducible refine (Wof _).mono ?_ | with_reducible refine (Wtm _).mono ?_ | with_reducible refine (Wpd _).mono ?_); rintro e w1 ⟨rfl, rfl⟩) | fail)
                 go_ret
                 exact ⟨by simp [checkN, hof, htm, hpd, hk1, hk2, hv], (Below.refl _ _).alloc (Nat.le_refl _) _⟩
               · have gv : decide ((1024 : Int) < (val.size : Int)) = false := decide_eq_false (by omega)
                 go_wp2_with (first | (go_at_call 53; (first | with_reducible refine (Wof _).mono ?_ | with_reducible refine (Wtm _).mono ?_ | with_reducible refine (Wpd _).mono ?_); rintro e w1 ⟨rfl, rfl⟩) | fail)
                 go_ret
                 exact ⟨by simp [checkN, hof, htm, hpd, hk1, hk2, hv], (Below.refl _ _).alloc (Nat.le_refl _) _⟩
         · have gs : (seq == 0) = false := by simpa using hs
           have gs2 : (seq != 0) = true := by simpa using hs
           go_wp2_with (first | (go_at_call 53; (first | with_reducible refine (Wof _).mono ?_ | with_reducible refine (Wtm _).mono ?_ | with_reducible refine (Wpd _).mono ?_); rintro e w1 ⟨rfl, rfl⟩) | fail)
           go_ret
           exact ⟨by simp [checkN, hof, htm, hpd, hs], (Below.refl _ _).alloc (Nat.le_refl _) _⟩
       · have gp : (pid == 0) = false := by simpa using hp
         have gp2 : decide ((0 : Int) < pid) = true := by simp only [wi, Bool.and_eq_true, decide_eq_true_eq] at hpd; exact decide_eq_true (by omega)
         rcases hq : wi seq 1 1099511627776 with _ | _
         · have W4 := within_is seq 1 1099511627776 _ hq
           go_wp2_with (first | (go_at_call 53; (first | with_reducible refine (Wof _).mono ?_ | with_reducible refine (Wtm _).mono ?_ | with_reducible refine (Wpd _).mono ?_ | with_reducible refine (W4 _).mono ?_); rintro e w1 ⟨rfl, rfl⟩) | fail)
           go_ret
           exact ⟨by simp [checkN, hof, htm, hpd, hp, hq], (Below.refl _ _).alloc (Nat.le_refl _) _⟩
         · have W4 := within_is seq 1 1099511627776 _ hq
           by_cases hk1 : key.size < 1
           · have gk1 : decide ((key.size : Int) < 1) = true := decide_eq_true (by omega)
             go_wp2_with (first | (go_at_call 53; (first | with_reducible refine (Wof _).mono ?_ | with_reducible refine (Wtm _).mono ?_ | with_reducible refine (Wpd _).mono ?_ | with_reducible refine (W4 _).mono ?_); rintro e w1 ⟨rfl, rfl⟩) | fail)
             go_ret
             exact ⟨by simp [checkN, hof, htm, hpd, hp, hq, hk1], (Below.refl _ _).alloc (Nat.le_refl _) _⟩
           · have gk1 : decide ((key.size : Int) < 1) = false := decide_eq_false (by omega)
             by_cases hk2 : 64 < key.size
             · have gk2 : decide ((64 : Int) < (key.size : Int)) = true := decide_eq_true (by omega)
               go_wp2_with (first | (go_at_call 53; (first | with_reducible refine (Wof _).mono ?_ | with_reducible refine (Wtm _).mono ?_ | with_reducible refine (Wpd _).mono ?_ | with_reducible refine (W4 _).mono ?_); rintro e w1 ⟨rfl, rfl⟩) | fail)
               go_ret
               exact ⟨by simp [checkN, hof, htm, hpd, hp, hq, hk2], (Below.refl _ _).alloc (Nat.le_refl _) _⟩
             · have gk2 : decide ((64 : Int) < (key.size : Int)) = false := decide_eq_false (by omega)
               by_cases hv : 1024 < val.size
               · have gv : decide ((1024 : Int) < (val.size : Int)) = true := decide_eq_true (by omega)
                 go_wp2_with (first | (go_at_call 53; (first | with_reducible refine (Wof _).mono ?_ | with_reducible refine (Wtm _).mono ?_ | with_reducible refine (Wpd _).mono ?_ | with_reducible refine (W4 _).mono ?_); rintro e w1 ⟨rfl, rfl⟩) | fail)
                 go_ret
                 exact ⟨by simp [checkN, hof, htm, hpd, hp, hq, hk1, hk2, hv], (Below.refl _ _).alloc (Nat.le_refl _) _⟩
               · have gv : decide ((1024 : Int) < (val.size : Int)) = false := decide_eq_false (by omega)
                 go_wp2_with (first | (go_at_call 53; (first | with_reducible refine (Wof _).mono ?_ | with_reducible refine (Wtm _).mono ?_ | with_reducible refine (Wpd _).mono ?_ | with_reducible refine (W4 _).mono ?_); rintro e w1 ⟨rfl, rfl⟩) | fail)
                 go_ret
                 exact ⟨by simp [checkN, hof, htm, hpd, hp, hq, hk1, hk2, hv], (Below.refl _ _).alloc (Nat.le_refl _) _⟩
set_option maxHeartbeats 4000000 in
theorem check2 (w : World) (off time pid seq : Int) (key val : ByteArray) : Calls Tryz.prog 15 #[.agg (Rc.cells ⟨2, off, time, pid, seq, key, val⟩)] w fun e w' => e = .returned (.int .i64 (checkN ⟨2, off, time, pid, seq, key, val⟩)) ∧ Below w.heap.size w w' := by
 unfold Rc.cells
 go_enter Tryz.func15, Tryz.ntmps15
 rcases hof : wi off 0 1099511627776 with _ | _
 · have Wof := within_is off 0 1099511627776 _ hof
   go_wp2_with (first | (go_at_call 53; (first | with_reducible refine (Wof _).mono ?_); rintro e w1 ⟨rfl, rfl⟩) | fail)
   go_ret
   exact ⟨by simp [checkN, hof], (Below.refl _ _).alloc (Nat.le_refl _) _⟩
 · have Wof := within_is off 0 1099511627776 _ hof
   rcases htm : wi time 0 1125899906842624 with _ | _
   · have Wtm := within_is time 0 1125899906842624 _ htm
     go_wp2_with (first | (go_at_call 53; (first | with_reducible refine (Wof _).mono ?_ | with_reducible refine (Wtm _).mono ?_); rintro e w1 ⟨rfl, rfl⟩) | fail)
     go_ret
     exact ⟨by simp [checkN, hof, htm], (Below.refl _ _).alloc (Nat.le_refl _) _⟩
   · have Wtm := within_is time 0 1125899906842624 _ htm
     rcases hpd : wi pid 0 4294967296 with _ | _
     · have Wpd := within_is pid 0 4294967296 _ hpd
       go_wp2_with (first | (go_at_call 53; (first | with_reducible refine (Wof _).mono ?_ | with_reducible refine (Wtm _).mono ?_ | with_reducible refine (Wpd _).mono ?_); rintro e w1 ⟨rfl, rfl⟩) | fail)
       go_ret
       exact ⟨by simp [checkN, hof, htm, hpd], (Below.refl _ _).alloc (Nat.le_refl _) _⟩
     · have Wpd := within_is pid 0 4294967296 _ hpd
       by_cases hp : pid = 0
       · subst hp
         by_cases hs : seq = 0
         · subst hs
           by_cases hk1 : key.size < 1
           · have gk1 : decide ((key.size : Int) < 1) = true := decide_eq_true (by omega)
             go_wp2_with (first | (go_at_call 53; (first | with_reducible refine (Wof _).mono ?_ | with_reducible refine (Wtm _).mono ?_ | with_reducible refine (Wpd _).mono ?_); rintro e w1 ⟨rfl, rfl⟩) | fail)
             go_ret
             exact ⟨by simp [checkN, hof, htm, hpd, hk1], (Below.refl _ _).alloc (Nat.le_refl _) _⟩
           · have gk1 : decide ((key.size : Int) < 1) = false := decide_eq_false (by omega)
             by_cases hk2 : 64 < key.size
             · have gk2 : decide ((64 : Int) < (key.size : Int)) = true := decide_eq_true (by omega)
               go_wp2_with (first | (go_at_call 53; (first | with_reducible refine (Wof _).mono ?_ | with_reducible refine (Wtm _).mono ?_ | with_reducible refine (Wpd _).mono ?_); rintro e w1 ⟨rfl, rfl⟩) | fail)
               go_ret
               exact ⟨by simp [checkN, hof, htm, hpd, hk2], (Below.refl _ _).alloc (Nat.le_refl _) _⟩
             · have gk2 : decide ((64 : Int) < (key.size : Int)) = false := decide_eq_false (by omega)
               by_cases hv : 1024 < val.size
               · have gv : decide ((1024 : Int) < (val.size : Int)) = true := decide_eq_true (by omega)
                 go_wp2_with (first | (go_at_call 53; (first | with_reducible refine (Wof _).mono ?_ | with_reducible refine (Wtm _).mono ?_ | with_reducible refine (Wpd _).mono ?_); rintro e w1 ⟨rfl, rfl⟩) | fail)
                 go_ret
                 exact ⟨by simp [checkN, hof, htm, hpd, hk1, hk2, hv], (Below.refl _ _).alloc (Nat.le_refl _) _⟩
               · have gv : decide ((1024 : Int) < (val.size : Int)) = false := decide_eq_false (by omega)
                 by_cases hz : val = ByteArray.empty
                 · subst hz
                   go_wp2_with (first | (go_at_call 53; (first | with_reducible refine (Wof _).mono ?_ | with_reducible refine (Wtm _).mono ?_ | with_reducible refine (Wpd _).mono ?_); rintro e w1 ⟨rfl, rfl⟩) | fail)
                   go_ret
                   exact ⟨by simp [checkN, hof, htm, hpd, hk1, hk2], (Below.refl _ _).alloc (Nat.le_refl _) _⟩
                 · have hz2 : 0 < val.size := Nat.pos_of_ne_zero (fun h => hz (empty_of h))
                   have gz : val.toList.isEmpty = false := full_of hz2
                   go_wp2_with (first | (go_at_call 53; (first | with_reducible refine (Wof _).mono ?_ | with_reducible refine (Wtm _).mono ?_ | with_reducible refine (Wpd _).mono ?_); rintro e w1 ⟨rfl, rfl⟩) | fail)
                   go_ret
                   exact ⟨by simp [checkN, hof, htm, hpd, hk1, hk2, hv, hz2], (Below.refl _ _).alloc (Nat.le_refl _) _⟩
         · have gs : (seq == 0) = false := by simpa using hs
           have gs2 : (seq != 0) = true := by simpa using hs
           go_wp2_with (first | (go_at_call 53; (first | with_reducible refine (Wof _).mono ?_ | with_reducible refine (Wtm _).mono ?_ | with_reducible refine (Wpd _).mono ?_); rintro e w1 ⟨rfl, rfl⟩) | fail)
           go_ret
           exact ⟨by simp [checkN, hof, htm, hpd, hs], (Below.refl _ _).alloc (Nat.le_refl _) _⟩
       · have gp : (pid == 0) = false := by simpa using hp
         have gp2 : decide ((0 : Int) < pid) = true := by simp only [wi, Bool.and_eq_true, decide_eq_true_eq] at hpd; exact decide_eq_true (by omega)
         rcases hq : wi seq 1 1099511627776 with _ | _
         · have W4 := within_is seq 1 1099511627776 _ hq
           go_wp2_with (first | (go_at_call 53; (first | with_reducible refine (Wof _).mono ?_ | with_reducible refine (Wtm _).mono ?_ | with_reducible refine (Wpd _).mono ?_ | with_reducible refine (W4 _).mono ?_); rintro e w1 ⟨rfl, rfl⟩) | fail)
           go_ret
           exact ⟨by simp [checkN, hof, htm, hpd, hp, hq], (Below.refl _ _).alloc (Nat.le_refl _) _⟩
         · have W4 := within_is seq 1 1099511627776 _ hq
           by_cases hk1 : key.size < 1
           · have gk1 : decide ((key.size : Int) < 1) = true := decide_eq_true (by omega)
             go_wp2_with (first | (go_at_call 53; (first | with_reducible refine (Wof _).mono ?_ | with_reducible refine (Wtm _).mono ?_ | with_reducible refine (Wpd _).mono ?_ | with_reducible refine (W4 _).mono ?_); rintro e w1 ⟨rfl, rfl⟩) | fail)
             go_ret
             exact ⟨by simp [checkN, hof, htm, hpd, hp, hq, hk1], (Below.refl _ _).alloc (Nat.le_refl _) _⟩
           · have gk1 : decide ((key.size : Int) < 1) = false := decide_eq_false (by omega)
             by_cases hk2 : 64 < key.size
             · have gk2 : decide ((64 : Int) < (key.size : Int)) = true := decide_eq_true (by omega)
               go_wp2_with (first | (go_at_call 53; (first | with_reducible refine (Wof _).mono ?_ | with_reducible refine (Wtm _).mono ?_ | with_reducible refine (Wpd _).mono ?_ | with_reducible refine (W4 _).mono ?_); rintro e w1 ⟨rfl, rfl⟩) | fail)
               go_ret
               exact ⟨by simp [checkN, hof, htm, hpd, hp, hq, hk2], (Below.refl _ _).alloc (Nat.le_refl _) _⟩
             · have gk2 : decide ((64 : Int) < (key.size : Int)) = false := decide_eq_false (by omega)
               by_cases hv : 1024 < val.size
               · have gv : decide ((1024 : Int) < (val.size : Int)) = true := decide_eq_true (by omega)
                 go_wp2_with (first | (go_at_call 53; (first | with_reducible refine (Wof _).mono ?_ | with_reducible refine (Wtm _).mono ?_ | with_reducible refine (Wpd _).mono ?_ | with_reducible refine (W4 _).mono ?_); rintro e w1 ⟨rfl, rfl⟩) | fail)
                 go_ret
                 exact ⟨by simp [checkN, hof, htm, hpd, hp, hq, hk1, hk2, hv], (Below.refl _ _).alloc (Nat.le_refl _) _⟩
               · have gv : decide ((1024 : Int) < (val.size : Int)) = false := decide_eq_false (by omega)
                 by_cases hz : val = ByteArray.empty
                 · subst hz
                   go_wp2_with (first | (go_at_call 53; (first | with_reducible refine (Wof _).mono ?_ | with_reducible refine (Wtm _).mono ?_ | with_reducible refine (Wpd _).mono ?_ | with_reducible refine (W4 _).mono ?_); rintro e w1 ⟨rfl, rfl⟩) | fail)
                   go_ret
                   exact ⟨by simp [checkN, hof, htm, hpd, hp, hq, hk1, hk2], (Below.refl _ _).alloc (Nat.le_refl _) _⟩
                 · have hz2 : 0 < val.size := Nat.pos_of_ne_zero (fun h => hz (empty_of h))
                   have gz : val.toList.isEmpty = false := full_of hz2
                   go_wp2_with (first | (go_at_call 53; (first | with_reducible refine (Wof _).mono ?_ | with_reducible refine (Wtm _).mono ?_ | with_reducible refine (Wpd _).mono ?_ | with_reducible refine (W4 _).mono ?_); rintro e w1 ⟨rfl, rfl⟩) | fail)
                   go_ret
                   exact ⟨by simp [checkN, hof, htm, hpd, hp, hq, hk1, hk2, hv, hz2], (Below.refl _ _).alloc (Nat.le_refl _) _⟩
set_option maxHeartbeats 4000000 in
theorem check0 (w : World) (kind off time pid seq : Int) (key val : ByteArray) (h1 : kind ≠ 1) (h2 : kind ≠ 2) : Calls Tryz.prog 15 #[.agg (Rc.cells ⟨kind, off, time, pid, seq, key, val⟩)] w fun e w' => e = .returned (.int .i64 (checkN ⟨kind, off, time, pid, seq, key, val⟩)) ∧ Below w.heap.size w w' := by
 unfold Rc.cells
 have g1 : (kind != 1) = true := by simpa using h1
 have g2 : (kind != 2) = true := by simpa using h2
 go_enter Tryz.func15, Tryz.ntmps15
 go_wp2_with fail
 go_ret
 exact ⟨by simp [checkN, h1, h2], (Below.refl _ _).alloc (Nat.le_refl _) _⟩
theorem check_any (w : World) (r : Rc) : Calls Tryz.prog 15 #[.agg r.cells] w fun e w' => e = .returned (.int .i64 (checkN r)) ∧ Below w.heap.size w w' := by
 obtain ⟨kind, off, time, pid, seq, key, val⟩ := r
 by_cases h1 : kind = 1
 · subst h1
   exact check1 w off time pid seq key val
 by_cases h2 : kind = 2
 · subst h2
   exact check2 w off time pid seq key val
 exact check0 w kind off time pid seq key val h1 h2
end Go.Proofs.YtendlmdmbkcdnaaGreatDoor.rc
