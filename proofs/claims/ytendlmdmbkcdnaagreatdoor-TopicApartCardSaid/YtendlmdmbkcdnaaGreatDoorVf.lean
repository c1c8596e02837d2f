/-
  Texts of the proof joined by a program: Rcb Rcc Sga Sgb Sgc Sgd Odb Odc Dda Ddb.
-/
import Derived.Test.YtendlmdmbkcdnaaGreatDoorVe
import Derived.Test.YtendlmdmbkcdnaaGreatDoorVd
import Derived.Test.YtendlmdmbkcdnaaGreatDoorSml
import Derived.Lib.ItoaNum
import Derived.Lib.AppendIntMem
import Derived.Lib.ItoaLen
set_option linter.unusedSimpArgs false
set_option linter.unusedVariables false
namespace Go.Proofs.YtendlmdmbkcdnaaGreatDoor.rc
open Go.RowKit oc sq
set_option maxRecDepth 100000
theorem empty_of {s : ByteArray} (h : s.size = 0) : s = ByteArray.empty := by
 obtain ⟨d⟩ := s
 have : d = #[] := Array.eq_empty_of_size_eq_zero h
 subst this
 rfl
theorem full_of {s : ByteArray} (h : 0 < s.size) : s.toList.isEmpty = false := by
 rw [ByteArray.toList_eq, List.isEmpty_eq_false_iff]
 intro e
 have : s.data.toList.length = s.size := by simp
 rw [e] at this
 simp at this
 omega
structure Rc where
 kind : Int
 off : Int
 time : Int
 pid : Int
 seq : Int
 key : ByteArray
 val : ByteArray
def Rc.cells (r : Rc) : Array Value := #[.int .i64 r.kind, .int .i64 r.off, .int .i64 r.time, .int .i64 r.pid, .int .i64 r.seq, .string r.key, .string r.val]
def wi (v lo hi : Int) : Bool := decide (lo <= v) && decide (v < hi)
set_option maxHeartbeats 2000000 in
theorem within_any (w : World) (v lo hi : Int) : Calls Tryz.prog 53 #[.int .i64 v, .int .i64 lo, .int .i64 hi] w fun e w' => e = .returned (.bool (wi v lo hi)) /\ w' = w := by
 go_enter Tryz.func53, Tryz.ntmps53
 by_cases h1 : lo <= v
 ·have g1 : decide (lo <= v) = true := decide_eq_true h1
  go_wp2_with fail
  go_ret
  simp [wi, h1]
 ·have g1 : decide (lo <= v) = false := decide_eq_false h1
  go_wp2_with fail
  go_ret
  exact ⟨by simp only [wi, g1, Bool.false_and]; rfl, rfl⟩
theorem within_is (v lo hi : Int) (b : Bool) (h : wi v lo hi = b) (w : World) : Calls Tryz.prog 53 #[.int .i64 v, .int .i64 lo, .int .i64 hi] w fun e w' => e = .returned (.bool b) /\ w' = w := by
 rw [<- h]
 exact within_any w v lo hi
def checkN (r : Rc) : Int :=
 if r.kind ≠ 1 /\ r.kind ≠ 2 then 44
 else if wi r.off 0 1099511627776 = false then 45
 else if wi r.time 0 1125899906842624 = false then 45
 else if wi r.pid 0 4294967296 = false then 45
 else if r.pid = 0 /\ r.seq ≠ 0 then 45
 else if r.pid ≠ 0 /\ wi r.seq 1 1099511627776 = false then 45
 else if r.key.size < 1 \/ 64 < r.key.size then 42
 else if 1024 < r.val.size then 43
 else if r.kind = 2 /\ 0 < r.val.size then 43
 else 0
set_option maxHeartbeats 4000000 in
theorem check1 (w : World) (off time pid seq : Int) (key val : ByteArray) : Calls Tryz.prog 15 #[.agg (Rc.cells ⟨1, off, time, pid, seq, key, val⟩)] w fun e w' => e = .returned (.int .i64 (checkN ⟨1, off, time, pid, seq, key, val⟩)) /\ Below w.heap.size w w' := by
 unfold Rc.cells
 go_enter Tryz.func15, Tryz.ntmps15
 rcases hof : wi off 0 1099511627776 with _ | _
 ·have Wof := within_is off 0 1099511627776 _ hof
  go_wp2_with (first | (go_at_call 53; (first | with_reducible refine (Wof _).mono ?_); rintro e w1 ⟨rfl, rfl⟩) | fail)
  go_ret
  exact ⟨by simp [checkN, hof], (Below.refl _ _).alloc (Nat.le_refl _) _⟩
 ·have Wof := within_is off 0 1099511627776 _ hof
  rcases htm : wi time 0 1125899906842624 with _ | _
  ·have Wtm := within_is time 0 1125899906842624 _ htm
   go_wp2_with (first | (go_at_call 53; (first | with_reducible refine (Wof _).mono ?_ | with_reducible refine (Wtm _).mono ?_); rintro e w1 ⟨rfl, rfl⟩) | fail)
   go_ret
   exact ⟨by simp [checkN, hof, htm], (Below.refl _ _).alloc (Nat.le_refl _) _⟩
  ·have Wtm := within_is time 0 1125899906842624 _ htm
   rcases hpd : wi pid 0 4294967296 with _ | _
   ·have Wpd := within_is pid 0 4294967296 _ hpd
    go_wp2_with (first | (go_at_call 53; (first | with_reducible refine (Wof _).mono ?_ | with_reducible refine (Wtm _).mono ?_ | with_reducible refine (Wpd _).mono ?_); rintro e w1 ⟨rfl, rfl⟩) | fail)
    go_ret
    exact ⟨by simp [checkN, hof, htm, hpd], (Below.refl _ _).alloc (Nat.le_refl _) _⟩
   ·have Wpd := within_is pid 0 4294967296 _ hpd
    by_cases hp : pid = 0
    ·subst hp
     by_cases hs : seq = 0
     ·subst hs
      by_cases hk1 : key.size < 1
      ·have gk1 : decide ((key.size : Int) < 1) = true := decide_eq_true (by omega)
       go_wp2_with (first | (go_at_call 53; (first | with_reducible refine (Wof _).mono ?_ | with_reducible refine (Wtm _).mono ?_ | with_reducible refine (Wpd _).mono ?_); rintro e w1 ⟨rfl, rfl⟩) | fail)
       go_ret
       exact ⟨by simp [checkN, hof, htm, hpd, hk1], (Below.refl _ _).alloc (Nat.le_refl _) _⟩
      ·have gk1 : decide ((key.size : Int) < 1) = false := decide_eq_false (by omega)
       by_cases hk2 : 64 < key.size
       ·have gk2 : decide ((64 : Int) < (key.size : Int)) = true := decide_eq_true (by omega)
        go_wp2_with (first | (go_at_call 53; (first | with_reducible refine (Wof _).mono ?_ | with_reducible refine (Wtm _).mono ?_ | with_reducible refine (Wpd _).mono ?_); rintro e w1 ⟨rfl, rfl⟩) | fail)
        go_ret
        exact ⟨by simp [checkN, hof, htm, hpd, hk2], (Below.refl _ _).alloc (Nat.le_refl _) _⟩
       ·have gk2 : decide ((64 : Int) < (key.size : Int)) = false := decide_eq_false (by omega)
        by_cases hv : 1024 < val.size
        ·have gv : decide ((1024 : Int) < (val.size : Int)) = true := decide_eq_true (by omega)
         go_wp2_with (first | (go_at_call 53; (first | with_reducible refine (Wof _).mono ?_ | with_reducible refine (Wtm _).mono ?_ | with_reducible refine (Wpd _).mono ?_); rintro e w1 ⟨rfl, rfl⟩) | fail)
         go_ret
         exact ⟨by simp [checkN, hof, htm, hpd, hk1, hk2, hv], (Below.refl _ _).alloc (Nat.le_refl _) _⟩
        ·have gv : decide ((1024 : Int) < (val.size : Int)) = false := decide_eq_false (by omega)
         go_wp2_with (first | (go_at_call 53; (first | with_reducible refine (Wof _).mono ?_ | with_reducible refine (Wtm _).mono ?_ | with_reducible refine (Wpd _).mono ?_); rintro e w1 ⟨rfl, rfl⟩) | fail)
         go_ret
         exact ⟨by simp [checkN, hof, htm, hpd, hk1, hk2, hv], (Below.refl _ _).alloc (Nat.le_refl _) _⟩
     ·have gs : (seq == 0) = false := by simpa using hs
      have gs2 : (seq != 0) = true := by simpa using hs
      go_wp2_with (first | (go_at_call 53; (first | with_reducible refine (Wof _).mono ?_ | with_reducible refine (Wtm _).mono ?_ | with_reducible refine (Wpd _).mono ?_); rintro e w1 ⟨rfl, rfl⟩) | fail)
      go_ret
      exact ⟨by simp [checkN, hof, htm, hpd, hs], (Below.refl _ _).alloc (Nat.le_refl _) _⟩
    ·have gp : (pid == 0) = false := by simpa using hp
     have gp2 : decide ((0 : Int) < pid) = true := by simp only [wi, Bool.and_eq_true, decide_eq_true_eq] at hpd; exact decide_eq_true (by omega)
     rcases hq : wi seq 1 1099511627776 with _ | _
     ·have W4 := within_is seq 1 1099511627776 _ hq
      go_wp2_with (first | (go_at_call 53; (first | with_reducible refine (Wof _).mono ?_ | with_reducible refine (Wtm _).mono ?_ | with_reducible refine (Wpd _).mono ?_ | with_reducible refine (W4 _).mono ?_); rintro e w1 ⟨rfl, rfl⟩) | fail)
      go_ret
      exact ⟨by simp [checkN, hof, htm, hpd, hp, hq], (Below.refl _ _).alloc (Nat.le_refl _) _⟩
     ·have W4 := within_is seq 1 1099511627776 _ hq
      by_cases hk1 : key.size < 1
      ·have gk1 : decide ((key.size : Int) < 1) = true := decide_eq_true (by omega)
       go_wp2_with (first | (go_at_call 53; (first | with_reducible refine (Wof _).mono ?_ | with_reducible refine (Wtm _).mono ?_ | with_reducible refine (Wpd _).mono ?_ | with_reducible refine (W4 _).mono ?_); rintro e w1 ⟨rfl, rfl⟩) | fail)
       go_ret
       exact ⟨by simp [checkN, hof, htm, hpd, hp, hq, hk1], (Below.refl _ _).alloc (Nat.le_refl _) _⟩
      ·have gk1 : decide ((key.size : Int) < 1) = false := decide_eq_false (by omega)
       by_cases hk2 : 64 < key.size
       ·have gk2 : decide ((64 : Int) < (key.size : Int)) = true := decide_eq_true (by omega)
        go_wp2_with (first | (go_at_call 53; (first | with_reducible refine (Wof _).mono ?_ | with_reducible refine (Wtm _).mono ?_ | with_reducible refine (Wpd _).mono ?_ | with_reducible refine (W4 _).mono ?_); rintro e w1 ⟨rfl, rfl⟩) | fail)
        go_ret
        exact ⟨by simp [checkN, hof, htm, hpd, hp, hq, hk2], (Below.refl _ _).alloc (Nat.le_refl _) _⟩
       ·have gk2 : decide ((64 : Int) < (key.size : Int)) = false := decide_eq_false (by omega)
        by_cases hv : 1024 < val.size
        ·have gv : decide ((1024 : Int) < (val.size : Int)) = true := decide_eq_true (by omega)
         go_wp2_with (first | (go_at_call 53; (first | with_reducible refine (Wof _).mono ?_ | with_reducible refine (Wtm _).mono ?_ | with_reducible refine (Wpd _).mono ?_ | with_reducible refine (W4 _).mono ?_); rintro e w1 ⟨rfl, rfl⟩) | fail)
         go_ret
         exact ⟨by simp [checkN, hof, htm, hpd, hp, hq, hk1, hk2, hv], (Below.refl _ _).alloc (Nat.le_refl _) _⟩
        ·have gv : decide ((1024 : Int) < (val.size : Int)) = false := decide_eq_false (by omega)
         go_wp2_with (first | (go_at_call 53; (first | with_reducible refine (Wof _).mono ?_ | with_reducible refine (Wtm _).mono ?_ | with_reducible refine (Wpd _).mono ?_ | with_reducible refine (W4 _).mono ?_); rintro e w1 ⟨rfl, rfl⟩) | fail)
         go_ret
         exact ⟨by simp [checkN, hof, htm, hpd, hp, hq, hk1, hk2, hv], (Below.refl _ _).alloc (Nat.le_refl _) _⟩
set_option maxHeartbeats 4000000 in
theorem check2 (w : World) (off time pid seq : Int) (key val : ByteArray) : Calls Tryz.prog 15 #[.agg (Rc.cells ⟨2, off, time, pid, seq, key, val⟩)] w fun e w' => e = .returned (.int .i64 (checkN ⟨2, off, time, pid, seq, key, val⟩)) /\ Below w.heap.size w w' := by
 unfold Rc.cells
 go_enter Tryz.func15, Tryz.ntmps15
 rcases hof : wi off 0 1099511627776 with _ | _
 ·have Wof := within_is off 0 1099511627776 _ hof
  go_wp2_with (first | (go_at_call 53; (first | with_reducible refine (Wof _).mono ?_); rintro e w1 ⟨rfl, rfl⟩) | fail)
  go_ret
  exact ⟨by simp [checkN, hof], (Below.refl _ _).alloc (Nat.le_refl _) _⟩
 ·have Wof := within_is off 0 1099511627776 _ hof
  rcases htm : wi time 0 1125899906842624 with _ | _
  ·have Wtm := within_is time 0 1125899906842624 _ htm
   go_wp2_with (first | (go_at_call 53; (first | with_reducible refine (Wof _).mono ?_ | with_reducible refine (Wtm _).mono ?_); rintro e w1 ⟨rfl, rfl⟩) | fail)
   go_ret
   exact ⟨by simp [checkN, hof, htm], (Below.refl _ _).alloc (Nat.le_refl _) _⟩
  ·have Wtm := within_is time 0 1125899906842624 _ htm
   rcases hpd : wi pid 0 4294967296 with _ | _
   ·have Wpd := within_is pid 0 4294967296 _ hpd
    go_wp2_with (first | (go_at_call 53; (first | with_reducible refine (Wof _).mono ?_ | with_reducible refine (Wtm _).mono ?_ | with_reducible refine (Wpd _).mono ?_); rintro e w1 ⟨rfl, rfl⟩) | fail)
    go_ret
    exact ⟨by simp [checkN, hof, htm, hpd], (Below.refl _ _).alloc (Nat.le_refl _) _⟩
   ·have Wpd := within_is pid 0 4294967296 _ hpd
    by_cases hp : pid = 0
    ·subst hp
     by_cases hs : seq = 0
     ·subst hs
      by_cases hk1 : key.size < 1
      ·have gk1 : decide ((key.size : Int) < 1) = true := decide_eq_true (by omega)
       go_wp2_with (first | (go_at_call 53; (first | with_reducible refine (Wof _).mono ?_ | with_reducible refine (Wtm _).mono ?_ | with_reducible refine (Wpd _).mono ?_); rintro e w1 ⟨rfl, rfl⟩) | fail)
       go_ret
       exact ⟨by simp [checkN, hof, htm, hpd, hk1], (Below.refl _ _).alloc (Nat.le_refl _) _⟩
      ·have gk1 : decide ((key.size : Int) < 1) = false := decide_eq_false (by omega)
       by_cases hk2 : 64 < key.size
       ·have gk2 : decide ((64 : Int) < (key.size : Int)) = true := decide_eq_true (by omega)
        go_wp2_with (first | (go_at_call 53; (first | with_reducible refine (Wof _).mono ?_ | with_reducible refine (Wtm _).mono ?_ | with_reducible refine (Wpd _).mono ?_); rintro e w1 ⟨rfl, rfl⟩) | fail)
        go_ret
        exact ⟨by simp [checkN, hof, htm, hpd, hk2], (Below.refl _ _).alloc (Nat.le_refl _) _⟩
       ·have gk2 : decide ((64 : Int) < (key.size : Int)) = false := decide_eq_false (by omega)
        by_cases hv : 1024 < val.size
        ·have gv : decide ((1024 : Int) < (val.size : Int)) = true := decide_eq_true (by omega)
         go_wp2_with (first | (go_at_call 53; (first | with_reducible refine (Wof _).mono ?_ | with_reducible refine (Wtm _).mono ?_ | with_reducible refine (Wpd _).mono ?_); rintro e w1 ⟨rfl, rfl⟩) | fail)
         go_ret
         exact ⟨by simp [checkN, hof, htm, hpd, hk1, hk2, hv], (Below.refl _ _).alloc (Nat.le_refl _) _⟩
        ·have gv : decide ((1024 : Int) < (val.size : Int)) = false := decide_eq_false (by omega)
         by_cases hz : val = ByteArray.empty
         ·subst hz
          go_wp2_with (first | (go_at_call 53; (first | with_reducible refine (Wof _).mono ?_ | with_reducible refine (Wtm _).mono ?_ | with_reducible refine (Wpd _).mono ?_); rintro e w1 ⟨rfl, rfl⟩) | fail)
          go_ret
          exact ⟨by simp [checkN, hof, htm, hpd, hk1, hk2], (Below.refl _ _).alloc (Nat.le_refl _) _⟩
         ·have hz2 : 0 < val.size := Nat.pos_of_ne_zero (fun h => hz (empty_of h))
          have gz : val.toList.isEmpty = false := full_of hz2
          go_wp2_with (first | (go_at_call 53; (first | with_reducible refine (Wof _).mono ?_ | with_reducible refine (Wtm _).mono ?_ | with_reducible refine (Wpd _).mono ?_); rintro e w1 ⟨rfl, rfl⟩) | fail)
          go_ret
          exact ⟨by simp [checkN, hof, htm, hpd, hk1, hk2, hv, hz2], (Below.refl _ _).alloc (Nat.le_refl _) _⟩
     ·have gs : (seq == 0) = false := by simpa using hs
      have gs2 : (seq != 0) = true := by simpa using hs
      go_wp2_with (first | (go_at_call 53; (first | with_reducible refine (Wof _).mono ?_ | with_reducible refine (Wtm _).mono ?_ | with_reducible refine (Wpd _).mono ?_); rintro e w1 ⟨rfl, rfl⟩) | fail)
      go_ret
      exact ⟨by simp [checkN, hof, htm, hpd, hs], (Below.refl _ _).alloc (Nat.le_refl _) _⟩
    ·have gp : (pid == 0) = false := by simpa using hp
     have gp2 : decide ((0 : Int) < pid) = true := by simp only [wi, Bool.and_eq_true, decide_eq_true_eq] at hpd; exact decide_eq_true (by omega)
     rcases hq : wi seq 1 1099511627776 with _ | _
     ·have W4 := within_is seq 1 1099511627776 _ hq
      go_wp2_with (first | (go_at_call 53; (first | with_reducible refine (Wof _).mono ?_ | with_reducible refine (Wtm _).mono ?_ | with_reducible refine (Wpd _).mono ?_ | with_reducible refine (W4 _).mono ?_); rintro e w1 ⟨rfl, rfl⟩) | fail)
      go_ret
      exact ⟨by simp [checkN, hof, htm, hpd, hp, hq], (Below.refl _ _).alloc (Nat.le_refl _) _⟩
     ·have W4 := within_is seq 1 1099511627776 _ hq
      by_cases hk1 : key.size < 1
      ·have gk1 : decide ((key.size : Int) < 1) = true := decide_eq_true (by omega)
       go_wp2_with (first | (go_at_call 53; (first | with_reducible refine (Wof _).mono ?_ | with_reducible refine (Wtm _).mono ?_ | with_reducible refine (Wpd _).mono ?_ | with_reducible refine (W4 _).mono ?_); rintro e w1 ⟨rfl, rfl⟩) | fail)
       go_ret
       exact ⟨by simp [checkN, hof, htm, hpd, hp, hq, hk1], (Below.refl _ _).alloc (Nat.le_refl _) _⟩
      ·have gk1 : decide ((key.size : Int) < 1) = false := decide_eq_false (by omega)
       by_cases hk2 : 64 < key.size
       ·have gk2 : decide ((64 : Int) < (key.size : Int)) = true := decide_eq_true (by omega)
        go_wp2_with (first | (go_at_call 53; (first | with_reducible refine (Wof _).mono ?_ | with_reducible refine (Wtm _).mono ?_ | with_reducible refine (Wpd _).mono ?_ | with_reducible refine (W4 _).mono ?_); rintro e w1 ⟨rfl, rfl⟩) | fail)
        go_ret
        exact ⟨by simp [checkN, hof, htm, hpd, hp, hq, hk2], (Below.refl _ _).alloc (Nat.le_refl _) _⟩
       ·have gk2 : decide ((64 : Int) < (key.size : Int)) = false := decide_eq_false (by omega)
        by_cases hv : 1024 < val.size
        ·have gv : decide ((1024 : Int) < (val.size : Int)) = true := decide_eq_true (by omega)
         go_wp2_with (first | (go_at_call 53; (first | with_reducible refine (Wof _).mono ?_ | with_reducible refine (Wtm _).mono ?_ | with_reducible refine (Wpd _).mono ?_ | with_reducible refine (W4 _).mono ?_); rintro e w1 ⟨rfl, rfl⟩) | fail)
         go_ret
         exact ⟨by simp [checkN, hof, htm, hpd, hp, hq, hk1, hk2, hv], (Below.refl _ _).alloc (Nat.le_refl _) _⟩
        ·have gv : decide ((1024 : Int) < (val.size : Int)) = false := decide_eq_false (by omega)
         by_cases hz : val = ByteArray.empty
         ·subst hz
          go_wp2_with (first | (go_at_call 53; (first | with_reducible refine (Wof _).mono ?_ | with_reducible refine (Wtm _).mono ?_ | with_reducible refine (Wpd _).mono ?_ | with_reducible refine (W4 _).mono ?_); rintro e w1 ⟨rfl, rfl⟩) | fail)
          go_ret
          exact ⟨by simp [checkN, hof, htm, hpd, hp, hq, hk1, hk2], (Below.refl _ _).alloc (Nat.le_refl _) _⟩
         ·have hz2 : 0 < val.size := Nat.pos_of_ne_zero (fun h => hz (empty_of h))
          have gz : val.toList.isEmpty = false := full_of hz2
          go_wp2_with (first | (go_at_call 53; (first | with_reducible refine (Wof _).mono ?_ | with_reducible refine (Wtm _).mono ?_ | with_reducible refine (Wpd _).mono ?_ | with_reducible refine (W4 _).mono ?_); rintro e w1 ⟨rfl, rfl⟩) | fail)
          go_ret
          exact ⟨by simp [checkN, hof, htm, hpd, hp, hq, hk1, hk2, hv, hz2], (Below.refl _ _).alloc (Nat.le_refl _) _⟩
set_option maxHeartbeats 4000000 in
theorem check0 (w : World) (kind off time pid seq : Int) (key val : ByteArray) (h1 : kind ≠ 1) (h2 : kind ≠ 2) : Calls Tryz.prog 15 #[.agg (Rc.cells ⟨kind, off, time, pid, seq, key, val⟩)] w fun e w' => e = .returned (.int .i64 (checkN ⟨kind, off, time, pid, seq, key, val⟩)) /\ Below w.heap.size w w' := by
 unfold Rc.cells
 have g1 : (kind != 1) = true := by simpa using h1
 have g2 : (kind != 2) = true := by simpa using h2
 go_enter Tryz.func15, Tryz.ntmps15
 go_wp2_with fail
 go_ret
 exact ⟨by simp [checkN, h1, h2], (Below.refl _ _).alloc (Nat.le_refl _) _⟩
theorem check_any (w : World) (r : Rc) : Calls Tryz.prog 15 #[.agg r.cells] w fun e w' => e = .returned (.int .i64 (checkN r)) /\ Below w.heap.size w w' := by
 obtain ⟨kind, off, time, pid, seq, key, val⟩ := r
 by_cases h1 : kind = 1
 ·subst h1
  exact check1 w off time pid seq key val
 by_cases h2 : kind = 2
 ·subst h2
  exact check2 w off time pid seq key val
 exact check0 w kind off time pid seq key val h1 h2
end Go.Proofs.YtendlmdmbkcdnaaGreatDoor.rc
namespace Go.Proofs.YtendlmdmbkcdnaaGreatDoor.rc
open Go.RowKit oc sq
open Go.Lib (hid)
set_option maxRecDepth 100000
theorem byte_is (B g : Nat) (l : List UInt8) (n : Nat) (hb : n < 256) (hn : l.length + 1 <= 1099511627776) (w : World) (h : Wr w B g l) : Calls Tryz.prog 115 #[.pointer (some ⟨g, 0, none⟩), .int .u8 (n : Int)] w fun e w' => e = .returned (.tuple #[]) /\ Wr w' B g (l ++ [UInt8.ofNat n]) /\ Below B w w' := by
 have := byte_any B g l (UInt8.ofNat n) hn w h
 rwa [show (UInt8.ofNat n).toNat = n from by rw [UInt8.toNat_ofNat']; omega] at this
def flagN (kind : Nat) (sm : Bool) (pid : Nat) : Nat := (if kind = 2 then 1 else 0) + (if sm then 2 else 0) + (if 0 < pid then 4 else 0)
def bodyN (kind off time pid seq : Nat) (key val : ByteArray) : List UInt8 :=
 ((([] ++ [UInt8.ofNat (flagN kind (shortN val.data.toList).2 pid)]) ++ uv 9 off) ++ uv 9 time) ++ (if 0 < pid then uv 9 pid ++ uv 9 seq else []) ++ uv 9 key.size ++ key.data.toList ++ (shortN val.data.toList).1
theorem body_eq (kind off time pid seq : Nat) (key val : ByteArray) (sv : List UInt8) (sm : Bool) (h : shortN val.data.toList = (sv, sm)) : bodyN kind off time pid seq key val = ((([] ++ [UInt8.ofNat (flagN kind sm pid)]) ++ uv 9 off) ++ uv 9 time) ++ (if 0 < pid then uv 9 pid ++ uv 9 seq else []) ++ uv 9 key.size ++ key.data.toList ++ sv := by
 rw [bodyN, h]
theorem cells6 {w1 w2 : World} {n b : Nat} {t : TypeId} {c0 c1 c2 c3 c4 c5 c6 : Value} (CB : Blk w1 b t #[c0, c1, c2, c3, c4, c5, c6]) (HB : Below n w1 w2) (HLT : b < n) : w2.cell? ⟨b, 0, none⟩ = some c0 /\ w2.cell? ⟨b, 1, none⟩ = some c1 /\ w2.cell? ⟨b, 2, none⟩ = some c2 /\ w2.cell? ⟨b, 3, none⟩ = some c3 /\ w2.cell? ⟨b, 4, none⟩ = some c4 /\ w2.cell? ⟨b, 5, none⟩ = some c5 := by
 have T := CB.below HB HLT
 exact ⟨(T.cell 0).trans rfl, (T.cell 1).trans rfl, (T.cell 2).trans rfl, (T.cell 3).trans rfl, (T.cell 4).trans rfl, (T.cell 5).trans rfl⟩
theorem short_len (v : List UInt8) : (shortN v).1.length <= v.length := by
 unfold shortN
 by_cases h : (encN v).length < v.length
 ·rw [if_pos h]; exact Nat.le_of_lt h
 ·rw [if_neg h]; exact Nat.le_refl _
set_option maxHeartbeats 16000000 in
theorem body_any (w : World) (kind off time pid seq : Nat) (key val : ByteArray) (hkd : kind = 1 \/ kind = 2) (ho : off < 1099511627776) (ht : time < 1125899906842624) (hp : pid < 4294967296) (hq : seq < 1099511627776) (hq0 : pid = 0 -> seq = 0) (hk : key.size <= 64) (hv : val.size <= 4096) :
  Calls Tryz.prog 112 #[.agg (Rc.cells ⟨(kind : Nat), (off : Nat), (time : Nat), (pid : Nat), (seq : Nat), key, val⟩)] w fun e w' => ∃ A c, e = .returned (.slice A (bodyN kind off time pid seq key val).length c) /\ w'.ownsRow w.heap.size 5 1 (.slice A (bodyN kind off time pid seq key val).length c) (bodyN kind off time pid seq key val).length (bc (bodyN kind off time pid seq key val)) /\ Below w.heap.size w w' := by
 have hvl : val.data.toList.length = val.size := by simp
 have hsl := short_len val.data.toList
 rcases hsv : shortN val.data.toList with ⟨sv, sm⟩
 obtain ⟨l, hL⟩ : ∃ l, bodyN kind off time pid seq key val = l := ⟨_, rfl⟩
 rw [hL]
 rw [body_eq kind off time pid seq key val sv sm hsv] at hL
 have HL9 := hid hL
 clear hL
 rw [hsv] at hsl
 dsimp only at hsl
 have hs := fun w => short_any w val hv
 simp only [hsv] at hs
 have hkl : key.data.toList.length = key.size := by simp
 have hu1 := uv_length 9 off
 have hu2 := uv_length 9 time
 have hu3 := uv_length 9 pid
 have hu4 := uv_length 9 seq
 have hu5 := uv_length 9 key.size
 have hll : l.length <= 100000 := by
  rw [<- HL9.out]; simp only [List.length_append, List.length_cons, List.length_nil]; split <;> (try simp only [List.length_append, List.length_nil]) <;> omega
 have e1 : IntKind.u64.wrap (off : Int) = (off : Int) := by rw [IntKind.wrap_u64]; omega
 have e2 : IntKind.u64.wrap (time : Int) = (time : Int) := by rw [IntKind.wrap_u64]; omega
 have e3 : IntKind.u64.wrap (pid : Int) = (pid : Int) := by rw [IntKind.wrap_u64]; omega
 have e4 : IntKind.u64.wrap (seq : Int) = (seq : Int) := by rw [IntKind.wrap_u64]; omega
 have HS := hs
 clear hs hsv
 unfold Rc.cells
 obtain ⟨K, hK⟩ : ∃ K : Int, (kind : Int) = K := ⟨_, rfl⟩
 simp only [hK]
 rcases hkd with hk1 | hk1 <;> cases sm <;> rcases Nat.lt_or_ge pid 1 with hz | hz
 all_goals (
  first
  | have e5 : decide ((0 : Int) < (pid : Int)) = true := decide_eq_true (by omega)
  | have e5 : decide ((0 : Int) < (pid : Int)) = false := decide_eq_false (by omega)
  first
  | have e6 : decide (K = 2) = true := decide_eq_true (by omega)
  | have e6 : decide (K = 2) = false := decide_eq_false (by omega)
  go_enter Tryz.func112, Tryz.ntmps112
  go_wp2_with (first
  | (go_at_call 166; refine (HS _).mono ?_; rintro e w1 ⟨A1, c1, rfl, hr1, hc1, hb1⟩; have HR1 := hid hr1; have CB : Hid (Blk w1 w.heap.size 47 #[.int .i64 K, .int .i64 (off : Int), .int .i64 (time : Int), .int .i64 (pid : Int), .int .i64 (seq : Int), .string key, .string val]) := hid ((Blk.new w _ _).below hb1 (by simp)); have HLT : Hid (w.heap.size < w1.heap.size) := hid (by have := hb1.size; simp at this; omega); have HB1 : Hid (Below w.heap.size w w1) := hid (((Below.refl _ _).alloc (Nat.le_refl _) _).trans (hb1.mono (by simp))); have HB := hid (Below.refl w1.heap.size w1); clear hr1 hc1 hb1; obtain ⟨k0, k1, k2, k3, k4, k5⟩ := cells6 CB.out HB.out HLT.out)
  | (go_at_call 113; refine (writer_new w1.heap.size w1 (Nat.le_refl _)).mono ?_; rintro e w2 ⟨rfl, h, hb⟩; have H := hid h; have HB := hid hb; clear h hb k0 k1 k2 k3 k4 k5; obtain ⟨k0, k1, k2, k3, k4, k5⟩ := cells6 CB.out HB.out HLT.out)
  | (go_at_call 115; refine (byte_is w1.heap.size w1.heap.size [] _ (by decide) (by simp) _ H.out).mono ?_; clear H; rintro e w3 ⟨rfl, h, hb⟩; have H := hid h; have HB2 := hid (HB.out.trans hb); clear h hb HB; have HB := HB2; clear HB2 k0 k1 k2 k3 k4 k5; obtain ⟨k0, k1, k2, k3, k4, k5⟩ := cells6 CB.out HB.out HLT.out)
  | (go_at_call 167; refine (wuv_any w1.heap.size w1.heap.size _ _ (by omega) (by (try simp only [List.length_append, List.length_cons, List.length_nil]); omega) _ H.out).mono ?_; clear H; rintro e w3 ⟨rfl, h, hb⟩; have H := hid h; have HB2 := hid (HB.out.trans hb); clear h hb HB; have HB := HB2; clear HB2 k0 k1 k2 k3 k4 k5; obtain ⟨k0, k1, k2, k3, k4, k5⟩ := cells6 CB.out HB.out HLT.out)
  | (go_at_call 168; refine (text_any w1.heap.size w1.heap.size _ key (by omega) (by (try simp only [List.length_append, List.length_cons, List.length_nil]); omega) _ H.out).mono ?_; clear H; rintro e w3 ⟨rfl, h, hb⟩; have H := hid h; have HB2 := hid (HB.out.trans hb); clear h hb HB; have HB := HB2; clear HB2 k0 k1 k2 k3 k4 k5; obtain ⟨k0, k1, k2, k3, k4, k5⟩ := cells6 CB.out HB.out HLT.out)
  | (go_at_call 116; refine (raw_any w1.heap.size w1.heap.size _ sv (by (try simp only [List.length_append, List.length_cons, List.length_nil]); omega) A1 c1 _ H.out (HR1.out.below HB.out)).mono ?_; clear H; rintro e w3 ⟨rfl, h, hb⟩; have H := hid h; have HB2 := hid (HB.out.trans hb); clear h hb HB; have HB := HB2; clear HB2 k0 k1 k2 k3 k4 k5; obtain ⟨k0, k1, k2, k3, k4, k5⟩ := cells6 CB.out HB.out HLT.out)
  | (go_at_call 117; refine (bytes_any w1.heap.size w1.heap.size l (by omega) _ (by refine Eq.mp (congrArg (Wr _ _ _) ?_) H.out; rw [<- HL9.out]; first | (have hz0 : pid = 0 := by omega); (simp [flagN, hz0, hk1]; try rfl) | (have hz0 : 0 < pid := by omega); (simp [flagN, hz0, hk1]; try rfl)) w.heap.size (Nat.le_trans HB1.out.size HB.out.size)).mono ?_; rintro e w9 ⟨A9, c9, rfl, ho9, hb9⟩; have HO9 := hid ho9; have HB9 := hid hb9; clear ho9 hb9)
  | fail)
  go_ret
  exact ⟨A9, c9, rfl, HO9.out, HB1.out.trans ((HB.out.mono HB1.out.size).trans (HB9.out.mono (Nat.le_trans HB1.out.size HB.out.size)))⟩)
end Go.Proofs.YtendlmdmbkcdnaaGreatDoor.rc
namespace Go.Proofs.YtendlmdmbkcdnaaGreatDoor.sg
open Go.RowKit oc rc
open Go.Lib (hid)
set_option maxRecDepth 100000
def hd1 (topic seg base : Nat) : List UInt8 := ((([] ++ [UInt8.ofNat 173]) ++ be4 topic) ++ be4 seg) ++ be8 base
def headN (topic seg base : Nat) : List UInt8 := hd1 topic seg base ++ be4 (extN 0 (hd1 topic seg base))
theorem be8_length (v : Nat) : (be8 v).length = 8 := rfl
theorem be4_len (v : Nat) : (be4 v).length = 4 := rfl
theorem hd1_len (t s b : Nat) : (hd1 t s b).length = 17 := by simp [hd1, be8_length, be4_len]
set_option maxHeartbeats 4000000 in
theorem head_any (w : World) (topic seg base : Nat) (ht : topic < 4294967296) (hs : seg < 4294967296) (hb : base < 9223372036854775808) :
  Calls Tryz.prog 154 #[.int .i64 (topic : Int), .int .i64 (seg : Int), .int .i64 (base : Int)] w fun e w' => ∃ A c, e = .returned (.slice A (headN topic seg base).length c) /\ w'.ownsRow w.heap.size 5 1 (.slice A (headN topic seg base).length c) (headN topic seg base).length (bc (headN topic seg base)) /\ Below w.heap.size w w' := by
 have e1 : IntKind.u32.wrap (topic : Int) = (topic : Int) := by rw [IntKind.wrap_u32]; omega
 have e2 : IntKind.u32.wrap (seg : Int) = (seg : Int) := by rw [IntKind.wrap_u32]; omega
 have e3 : IntKind.u64.wrap (base : Int) = (base : Int) := by rw [IntKind.wrap_u64]; omega
 have HX := hid (extN_lt (s := 0) (by decide) (hd1 topic seg base))
 have HT := hid ht
 have HS := hid hs
 have HBS := hid hb
 have HL1 := hid (hd1_len topic seg base)
 clear ht hs hb
 obtain ⟨l1, hl1⟩ : ∃ l, hd1 topic seg base = l := ⟨_, rfl⟩
 obtain ⟨l2, hl2⟩ : ∃ l, headN topic seg base = l := ⟨_, rfl⟩
 rw [hl2]
 rw [hl1] at HX HL1
 have HL2 : Hid (l2 = l1 ++ be4 (extN 0 l1)) := hid (by rw [<- hl2, headN, hl1])
 have HE1 : Hid (((([] ++ [UInt8.ofNat 173]) ++ be4 topic) ++ be4 seg) ++ be8 base = l1) := hid hl1
 clear hl1 hl2
 go_enter Tryz.func154, Tryz.ntmps154
 go_wp2_with fail
 refine (writer_new w.heap.size w (Nat.le_refl _)).mono ?_
 rintro e w1 ⟨rfl, h1, b1⟩
 have H1 := hid h1
 have B1 := hid b1
 clear h1 b1
 go_wp2_with fail
 refine (byte_is _ _ [] 173 (by decide) (by simp) w1 H1.out).mono ?_
 rintro e w2 ⟨rfl, h2, b2⟩
 have H2 := hid h2
 have B2 : Hid (Below w.heap.size w w2) := B1.out.trans b2
 clear h2 b2
 go_wp2_with fail
 refine (u32_any _ _ _ topic HT.out (by simp) w2 H2.out).mono ?_
 rintro e w3 ⟨rfl, h3, b3⟩
 have H3 := hid h3
 have B3 : Hid (Below w.heap.size w w3) := B2.out.trans b3
 clear h3 b3
 go_wp2_with fail
 refine (u32_any _ _ _ seg HS.out (by simp [be4_len]) w3 H3.out).mono ?_
 rintro e w4 ⟨rfl, h4, b4⟩
 have H4 := hid h4
 have B4 : Hid (Below w.heap.size w w4) := B3.out.trans b4
 clear h4 b4
 go_wp2_with fail
 refine (u64_any _ _ _ base (by have := HBS.out; omega) (by simp [be4_len]) w4 H4.out).mono ?_
 rintro e w5 ⟨rfl, h5, b5⟩
 rw [HE1.out] at h5
 have H5 := hid h5
 have B5 : Hid (Below w.heap.size w w5) := B4.out.trans b5
 clear h5 b5
 go_wp2_with fail
 refine (bytes_any _ _ l1 (by have := HL1.out; omega) w5 H5.out w5.heap.size (Nat.le_refl _)).mono ?_
 rintro e w6 ⟨A6, c6, rfl, o6, b6⟩
 have O6 := hid o6
 have B6 : Hid (Below w.heap.size w w6) := B5.out.trans (b6.mono B5.out.size)
 have H6 : Hid (Wr w6 w.heap.size w.heap.size l1) := H5.out.below b6
 clear o6 b6
 go_wp2_with fail
 refine (sum_any l1 (by have := HL1.out; omega) A6 c6 w6 (RB.of_own O6.out)).mono ?_
 rintro e w7 ⟨rfl, b7⟩
 have B7 : Hid (Below w.heap.size w w7) := B6.out.trans (b7.mono B6.out.size)
 have H7 : Hid (Wr w7 w.heap.size w.heap.size l1) := H6.out.below b7
 clear b7
 go_wp2_with fail
 refine (u32_any _ _ l1 _ HX.out (by have := HL1.out; omega) w7 H7.out).mono ?_
 rintro e w8 ⟨rfl, h8, b8⟩
 rw [<- HL2.out] at h8
 have H8 := hid h8
 have B8 : Hid (Below w.heap.size w w8) := B7.out.trans b8
 clear h8 b8
 go_wp2_with fail
 refine (bytes_any _ _ l2 (by have := HL1.out; rw [HL2.out, List.length_append, be4_len]; omega) w8 H8.out w.heap.size B8.out.size).mono ?_
 rintro e w9 ⟨A9, c9, rfl, o9, b9⟩
 have O9 := hid o9
 have B9 : Hid (Below w.heap.size w w9) := B8.out.trans (b9.mono B8.out.size)
 clear o9 b9
 go_wp2_with fail
 go_ret
 exact ⟨A9, c9, rfl, O9.out, B9.out⟩
theorem number_any (w : World) (n : Int) : Calls Tryz.prog 67 #[.int .i64 n] w fun e w' => e = .returned (.bool (decide (0 <= n) && decide (n < 1073741824))) /\ w' = w := by
 go_enter Tryz.func67, Tryz.ntmps67
 by_cases h1 : 0 <= n
 ·have g1 : decide (0 <= n) = true := decide_eq_true h1
  go_wp2_with fail
  go_ret
  simp [h1]
 ·have g1 : decide (0 <= n) = false := decide_eq_false h1
  go_wp2_with fail
  go_ret
  exact ⟨by simp only [g1, Bool.false_and]; rfl, rfl⟩
structure Inf where
 topic : Int
 seg : Int
 base : Int
 size : Int
 count : Nat
 last : Int
 sealed : Bool
def tl1 (count last : Nat) : List UInt8 := (([] ++ [UInt8.ofNat 174]) ++ be4 count) ++ be8 last
def tailN (sum count last : Nat) : List UInt8 := tl1 count last ++ be4 (extN sum (tl1 count last))
theorem tl1_len (c l : Nat) : (tl1 c l).length = 13 := by simp [tl1, be8_length, be4_len]
def u64of (x : Int) : Nat := (x % 18446744073709551616).toNat
theorem u64of_lt (x : Int) : u64of x < 18446744073709551616 := by unfold u64of; omega
theorem u64of_wrap (x : Int) : IntKind.u64.wrap x = (u64of x : Int) := by rw [IntKind.wrap_u64]; unfold u64of; omega
def Inf.cells (i : Inf) : Array Value := #[.int .i64 i.topic, .int .i64 i.seg, .int .i64 i.base, .int .i64 i.size, .int .i64 (i.count : Int), .int .i64 i.last, .bool i.sealed]
set_option maxHeartbeats 4000000 in
theorem tail_any (w : World) (sum : Nat) (i : Inf) (hsum : sum < 4294967296) (hct : i.count < 4294967296) :
  Calls Tryz.prog 77 #[.int .u32 (sum : Int), .agg i.cells] w fun e w' => ∃ A c, e = .returned (.slice A (tailN sum i.count (u64of i.last)).length c) /\ w'.ownsRow w.heap.size 5 1 (.slice A (tailN sum i.count (u64of i.last)).length c) (tailN sum i.count (u64of i.last)).length (bc (tailN sum i.count (u64of i.last))) /\ Below w.heap.size w w' := by
 obtain ⟨topic, seg, base, size, count, last, sealed⟩ := i
 dsimp only at hct
 have e1 : IntKind.u32.wrap (count : Int) = (count : Int) := by rw [IntKind.wrap_u32]; omega
 have e2 := u64of_wrap last
 have hlt := u64of_lt last
 dsimp only [Inf.cells]
 generalize u64of last = lw at e2 hlt ⊢
 have HX := hid (extN_lt hsum (tl1 count lw))
 have HCT := hid hct
 have HLT := hid hlt
 have HSM := hid hsum
 have HL1 := hid (tl1_len count lw)
 clear hct hlt hsum
 obtain ⟨l1, hl1⟩ : ∃ l, tl1 count lw = l := ⟨_, rfl⟩
 obtain ⟨l2, hl2⟩ : ∃ l, tailN sum count lw = l := ⟨_, rfl⟩
 rw [hl2]
 rw [hl1] at HX HL1
 have HL2 : Hid (l2 = l1 ++ be4 (extN sum l1)) := hid (by rw [<- hl2, tailN, hl1])
 have HE1 : Hid ((([] ++ [UInt8.ofNat 174]) ++ be4 count) ++ be8 lw = l1) := hid hl1
 clear hl1 hl2
 go_enter Tryz.func77, Tryz.ntmps77
 go_wp2_with fail
 have B0 : Hid (Below w.heap.size w (w.alloc (.cells #[.int .i64 topic, .int .i64 seg, .int .i64 base, .int .i64 size, .int .i64 (count : Int), .int .i64 last, .bool sealed] 79))) := hid ((Below.refl _ _).alloc (Nat.le_refl _) _)
 have K0 : Hid (Blk (w.alloc (.cells #[.int .i64 topic, .int .i64 seg, .int .i64 base, .int .i64 size, .int .i64 (count : Int), .int .i64 last, .bool sealed] 79)) w.heap.size 79 #[.int .i64 topic, .int .i64 seg, .int .i64 base, .int .i64 size, .int .i64 (count : Int), .int .i64 last, .bool sealed]) := hid (Blk.new w _ _)
 have hsz : w.heap.size < (w.alloc (.cells #[.int .i64 topic, .int .i64 seg, .int .i64 base, .int .i64 size, .int .i64 (count : Int), .int .i64 last, .bool sealed] 79)).heap.size := by simp
 generalize World.alloc w _ = w0 at B0 K0 hsz ⊢
 refine (writer_new w0.heap.size w0 (Nat.le_refl _)).mono ?_
 rintro e w1 ⟨rfl, h1, b1⟩
 have H1 := hid h1
 have B1 := hid b1
 clear h1 b1
 go_wp2_with fail
 refine (byte_is _ _ [] 174 (by decide) (by simp) w1 H1.out).mono ?_
 rintro e w2 ⟨rfl, h2, b2⟩
 have H2 := hid h2
 have B2 : Hid (Below w0.heap.size w0 w2) := B1.out.trans b2
 have k4 : w2.cell? ⟨w.heap.size, 4, none⟩ = some (.int .i64 (count : Int)) := ((K0.out.below B2.out hsz).cell 4).trans rfl
 clear h2 b2
 go_wp2_with fail
 refine (u32_any _ _ _ count HCT.out (by simp) w2 H2.out).mono ?_
 rintro e w3 ⟨rfl, h3, b3⟩
 have H3 := hid h3
 have B3 : Hid (Below w0.heap.size w0 w3) := B2.out.trans b3
 have k5 : w3.cell? ⟨w.heap.size, 5, none⟩ = some (.int .i64 last) := ((K0.out.below B3.out hsz).cell 5).trans rfl
 clear h3 b3 k4
 go_wp2_with fail
 refine (u64_any _ _ _ lw HLT.out (by simp [be4_len]) w3 H3.out).mono ?_
 rintro e w5 ⟨rfl, h5, b5⟩
 rw [HE1.out] at h5
 have H5 := hid h5
 have B5 : Hid (Below w0.heap.size w0 w5) := B3.out.trans b5
 clear h5 b5 k5
 go_wp2_with fail
 refine (bytes_any _ _ l1 (by have := HL1.out; omega) w5 H5.out w5.heap.size (Nat.le_refl _)).mono ?_
 rintro e w6 ⟨A6, c6, rfl, o6, b6⟩
 have O6 := hid o6
 have B6 : Hid (Below w0.heap.size w0 w6) := B5.out.trans (b6.mono B5.out.size)
 have H6 : Hid (Wr w6 w0.heap.size w0.heap.size l1) := H5.out.below b6
 clear o6 b6
 go_wp2_with fail
 refine (extend_any sum HSM.out l1 (by have := HL1.out; omega) A6 c6 w6 (RB.of_own O6.out)).mono ?_
 rintro e w7 ⟨rfl, b7⟩
 have B7 : Hid (Below w0.heap.size w0 w7) := B6.out.trans (b7.mono B6.out.size)
 have H7 : Hid (Wr w7 w0.heap.size w0.heap.size l1) := H6.out.below b7
 clear b7
 go_wp2_with fail
 refine (u32_any _ _ l1 _ HX.out (by have := HL1.out; omega) w7 H7.out).mono ?_
 rintro e w8 ⟨rfl, h8, b8⟩
 rw [<- HL2.out] at h8
 have H8 := hid h8
 have B8 : Hid (Below w0.heap.size w0 w8) := B7.out.trans b8
 clear h8 b8
 go_wp2_with fail
 refine (bytes_any _ _ l2 (by have := HL1.out; rw [HL2.out, List.length_append, be4_len]; omega) w8 H8.out w8.heap.size (Nat.le_refl _)).mono ?_
 rintro e w9 ⟨A9, c9, rfl, o9, b9⟩
 have O9 := hid o9
 have B9 : Hid (Below w.heap.size w w9) := B0.out.trans ((B8.out.mono B0.out.size).trans (b9.mono (Nat.le_trans B0.out.size B8.out.size)))
 have hle : Hid (w.heap.size <= w8.heap.size) := hid (Nat.le_trans B0.out.size B8.out.size)
 clear o9 b9
 go_wp2_with fail
 go_ret
 exact ⟨A9, c9, rfl, own_less O9.out hle.out, B9.out⟩
end Go.Proofs.YtendlmdmbkcdnaaGreatDoor.sg
namespace Go.Proofs.YtendlmdmbkcdnaaGreatDoor.sg
open Go.RowKit oc rc
open Go.Lib (hid)
open Go.Lib (itoa)
set_option maxRecDepth 100000
def Tab (w : World) : Prop := Lib.TabIs Tryz.prog w "internal/strconv.uint64pow10" .u64 Lib.pow10Tab
theorem tab_below {w w' : World} (h : Tab w) (hb : Below w.heap.size w w') : Tab w' := by
 have hv : w.var? Tryz.prog "internal/strconv.uint64pow10" = some ((Lib.pow10Tab.map fun z => Value.int .u64 z).toArray) := h
 have hlt : 2 < w.heap.size := by
  unfold World.var? at hv
  rw [show Tryz.prog.globalNamed "internal/strconv.uint64pow10" = some 2 by kernel_rfl] at hv
  rcases Nat.lt_or_ge 2 w.heap.size with h1 | h1
  ·exact h1
  ·simp [Array.getElem?_eq_none h1] at hv
 exact var?_below hb (by kernel_rfl) hlt hv
def Sb (l : List UInt8) : ByteArray := ⟨l.toArray⟩
theorem itoa_any (n : Int) (h0 : -9223372036854775808 <= n) (h1 : n <= 9223372036854775807) (w : World) (ht : Tab w) :
  Calls Tryz.prog 68 #[.int .i64 n] w fun e w' => e = .returned (.string (Sb (itoa n))) /\ Below w.heap.size w w' := by
 refine (Tryz.strconv_Itoa n h0 h1 w ht).mono ?_
 rintro e w1 ⟨rfl, k, os, rfl⟩
 exact ⟨rfl, Lib.below_grow _ _ (Nat.le_refl _) k os⟩
theorem sb_app (a b : List UInt8) : Sb (a ++ b) = Sb a ++ Sb b := by
 apply ByteArray.ext
 simp [Sb, ByteArray.data_append]
theorem sb_len (n : Int) (h0 : -9223372036854775808 <= n) (h1 : n <= 9223372036854775807) : (Sb (itoa n)).size <= 21 := by
 have := Lib.itoa_length_le n h0 h1
 simpa [Sb, ByteArray.size] using this
def okNum (n : Int) : Bool := decide (0 <= n) && decide (n < 1073741824)
def nameN (topic seg : Int) : List UInt8 := [116] ++ itoa topic ++ [46] ++ itoa seg ++ [46, 115, 101, 103]
set_option maxHeartbeats 2000000 in
theorem name_any (w : World) (topic seg : Int) (h1 : okNum topic = true) (h2 : okNum seg = true) (ht : Tab w) :
  Calls Tryz.prog 24 #[.int .i64 topic, .int .i64 seg] w fun e w' => e = .returned (.string (Sb (nameN topic seg))) /\ Below w.heap.size w w' := by
 have hn1 := fun w => number_any w topic
 have hn2 := fun w => number_any w seg
 unfold okNum at h1 h2
 rw [h1] at hn1
 rw [h2] at hn2
 simp only [Bool.and_eq_true, decide_eq_true_eq] at h1 h2
 have z1 := sb_len topic (by omega) (by omega)
 have z2 := sb_len seg (by omega) (by omega)
 have y1 : ¬ 9223372036854775807 < 1 + (Sb (itoa topic)).size := by omega
 have y2 : ¬ 9223372036854775807 < 1 + (Sb (itoa topic)).size + 1 := by omega
 have y3 : ¬ 9223372036854775807 < 1 + (Sb (itoa topic)).size + 1 + (Sb (itoa seg)).size := by omega
 have y4 : ¬ 9223372036854775807 < 1 + (Sb (itoa topic)).size + 1 + (Sb (itoa seg)).size + 4 := by omega
 have HT := hid ht
 have HN := hid h1
 have HM := hid h2
 clear ht h1 h2
 go_enter Tryz.func24, Tryz.ntmps24
 go_wp2_with (first
  | (go_at_call 67; (first | with_reducible refine (hn1 _).mono ?_ | with_reducible refine (hn2 _).mono ?_); rintro e w1 ⟨rfl, rfl⟩)
  | fail)
 refine (itoa_any topic (by have := HN.out; omega) (by have := HN.out; omega) w1 HT.out).mono ?_
 rintro e w2 ⟨rfl, hb2⟩
 have HB2 := hid hb2
 have HT2 := hid (tab_below HT.out hb2)
 clear hb2
 go_wp2_with fail
 refine (itoa_any seg (by have := HM.out; omega) (by have := HM.out; omega) w2 HT2.out).mono ?_
 rintro e w3 ⟨rfl, hb3⟩
 have HB3 : Hid (Below w1.heap.size w1 w3) := hid (HB2.out.trans (hb3.mono HB2.out.size))
 clear hb3
 go_wp2_with fail
 go_ret
 refine ⟨?_, HB3.out⟩
 rw [nameN, sb_app, sb_app, sb_app, sb_app]
 rfl
end Go.Proofs.YtendlmdmbkcdnaaGreatDoor.sg
namespace Go.Proofs.YtendlmdmbkcdnaaGreatDoor.sg
open Go.RowKit oc rc
set_option maxRecDepth 100000
theorem number_is (n : Int) (b : Bool) (h : okNum n = b) (w : World) : Calls Tryz.prog 67 #[.int .i64 n] w fun e w' => e = .returned (.bool b) /\ w' = w := by
 rw [<- h]
 exact number_any w n
set_option maxHeartbeats 2000000 in
theorem refused_ok (w : World) (d : Nat) (topic seg limit : Int) (h1 : okNum topic = true) (h2 : okNum seg = true) (h3 : 256 <= limit) (h4 : limit <= 65536) :
  Calls Tryz.prog 152 #[.pointer (some ⟨d, 0, none⟩), .int .i64 topic, .int .i64 seg, .int .i64 limit] w fun e w' => e = .returned (.int .i64 0) /\ w' = w := by
 have n1 := number_is topic true h1
 have n2 := number_is seg true h2
 have g1 : decide (limit < 256) = false := decide_eq_false (by omega)
 have g2 : decide (65536 < limit) = false := decide_eq_false (by omega)
 clear h1 h2
 go_enter Tryz.func152, Tryz.ntmps152
 go_wp2_with (first
  | (go_at_call 67; (first | with_reducible refine (n1 _).mono ?_ | with_reducible refine (n2 _).mono ?_); rintro e w1 ⟨rfl, rfl⟩)
  | fail)
 go_ret
 exact ⟨rfl, rfl⟩
end Go.Proofs.YtendlmdmbkcdnaaGreatDoor.sg
namespace Go.Proofs.YtendlmdmbkcdnaaGreatDoor.oc
open Go.RowKit Go.Maps Go.WideMaps
set_option maxRecDepth 100000
theorem made_at {w : World} {P : Program} {k : TypeId} {R : Value -> Option (DataW Unit × List MemPlace)} {n : Nat} (h : w.heap.size = n) : (w.alloc (.map #[] 0)).ownsMap P k R n 0 (.map []) := h ▸ World.ownsMap_made w P k R
def disk0 (q : Int) : DiskS := ⟨.map [], .map [], [], q, 0, -1, false, 0, fun _ => none, 0⟩
def ow0 (b : Nat) : Nat -> Tag := fun i => if i = b then .disk else if i = b + 1 then .mseen else if i = b + 1 + 1 then .msafe else .other
theorem fresh_any (q : Int) (w : World) : Calls Tryz.prog 35 #[.int .i64 q] w fun e w' => e = .returned (.pointer (some ⟨w.heap.size, 0, none⟩)) /\ DiskAt w' (ow0 w.heap.size) w.heap.size (disk0 q) /\ Below w.heap.size w w' := by
 have hmm := @run_makeMap Tryz.prog
 go_enter Tryz.func35, Tryz.ntmps35
 go_wp2
 go_ret
 refine ⟨rfl, ⟨w.heap.size + 1, w.heap.size + 1 + 1, .slice none 0 0, [], ?_, by simp [ow0], ⟨?_, by simp [ow0]⟩, ⟨?_, by simp [ow0]; omega⟩, ⟨World.ownsRow_nil _ _ _ _, fun g e => by simp [Value.ownBlock] at e⟩, fun i ch e => by simp [disk0] at e, fun f F e => by simp [disk0] at e, fun i hi => ?_, Nat.le_refl _, Nat.zero_le _⟩, ?_⟩
 ·exact ((Blk.new w _ _).alloc _).alloc _
 ·exact (made_at (by simp)).alloc _
 ·exact made_at (by simp)
 ·simp at hi
  simp only [ow0]
  rw [if_neg (by omega), if_neg (by omega), if_neg (by omega)]
 ·exact (((Below.refl _ _).alloc (Nat.le_refl _) _).alloc (by simp) _).alloc (by simp; omega) _
theorem newdisk_any (q : Int) (h0 : 0 <= q) (h1 : q <= 1073741824) (w : World) : Calls Tryz.prog 7 #[.int .i64 q] w fun e w' => e = .returned (.tuple #[.pointer (some ⟨w.heap.size, 0, none⟩), .int .i64 0]) /\ DiskAt w' (ow0 w.heap.size) w.heap.size (disk0 q) /\ Below w.heap.size w w' := by
 have hq : decide (q <= 1073741824) = true := by simp; omega
 go_enter Tryz.func7, Tryz.ntmps7
 go_wp2_with (first | (go_at_call 35; refine (fresh_any _ _).mono ?_; rintro e w1 ⟨rfl, hE, hb⟩) | go_in)
 go_ret2
 exact ⟨rfl, hE, hb⟩
end Go.Proofs.YtendlmdmbkcdnaaGreatDoor.oc
namespace Go.Proofs.YtendlmdmbkcdnaaGreatDoor.oc
open Go.RowKit Go.Maps Go.WideMaps
open Go.Lib (hid)
set_option maxRecDepth 100000
set_option maxHeartbeats 4000000 in
theorem append_full (w : World) (ow : Nat -> Tag) (d f : Nat) (S : DiskS) (h : DiskAt w ow d S) (hd : S.dead = false) (s : ByteArray) (hs : GoodN s) (he : EntF S.dir s f)
  (A : Option Addr) (c : Nat) (b : List UInt8) (hu0 : 0 <= S.used) (hu1 : S.used <= S.quota) (hn : S.quota < S.used + b.length) (hq : S.quota <= 1073741824) :
  Calls Tryz.prog 107 #[.pointer (some ⟨d, 0, none⟩), .string s, .slice A b.length c] w fun e w' => e = .returned (.int .i64 33) /\ Below w.heap.size w w' := by
 have HAT := hid (at_yes w ow d f S h hd s hs he)
 obtain ⟨ms, mf, vc, dvals, hV⟩ := h
 have HV := hid hV
 have hwr := q_sub S.quota S.used hu0 hu1 hq
 have hg : decide (S.quota - S.used < (b.length : Int)) = true := by simp; omega
 have hp : decide ((0 : Int) < (b.length : Int)) = true := by simp; omega
 have hb0 : 0 < b.length := by omega
 clear hV hd hs he
 go_enter Tryz.func107, Tryz.ntmps107
 go_wp2_with fail
 refine HAT.out.mono ?_
 rintro e w1 ⟨rfl, hb1⟩
 have HV1 := hid (HV.out.below hb1)
 have HB1 := hid hb1
 have c3 : w1.cell? ⟨d, 3, none⟩ = some (.int .i64 S.quota) := (HV1.out.1.cell 3).trans rfl
 have c4 : w1.cell? ⟨d, 4, none⟩ = some (.int .i64 S.used) := (HV1.out.1.cell 4).trans rfl
 clear hb1 HAT
 go_wp2_with fail
 go_quiet (fail)
 clear hwr hg hp
 go_wp2_with fail
 go_ret
 exact ⟨rfl, HB1.out.trans (below_drewN (Below.refl _ _) nq)⟩
end Go.Proofs.YtendlmdmbkcdnaaGreatDoor.oc
namespace Go.Proofs.YtendlmdmbkcdnaaGreatDoor.dd
open Go.RowKit Go.Maps Go.WideMaps oc
open Go.Lib (hid)
set_option maxRecDepth 100000
def prodD (a b c : Int) : DataW Unit := .agg [.lit (.int .i64 a), .lit (.int .i64 b), .lit (.int .i64 c)]
def prodR : Value -> Option (DataW Unit × List MemPlace)
 | .agg ⟨[.int .i64 a, .int .i64 b, .int .i64 c]⟩ => some (prodD a b c, [])
 | _ => none
theorem prodR_of {v : Value} {a b c : Int} {ps : List MemPlace} (h : prodR v = some (prodD a b c, ps)) : v = .agg #[.int .i64 a, .int .i64 b, .int .i64 c] := by
 unfold prodR at h
 split at h
 ·simp only [prodD, Option.some.injEq, Prod.mk.injEq, DataW.agg.injEq, List.cons.injEq, DataW.lit.injEq, Lit.int.injEq, true_and, and_true] at h
  obtain ⟨⟨rfl, rfl, rfl⟩, _⟩ := h
  rfl
 ·cases h
def key (n : Int) : Lit := .int .i64 n
theorem lawI : Keyed Tryz.prog 2 := int_keyed Tryz.underlying2
theorem keyI (x : Int) (h0 : -9223372036854775808 <= x) (h1 : x <= 9223372036854775807) : keyOf Tryz.prog 2 (.int .i64 x) = some (.int .i64 x) := keyOf_int_mk Tryz.underlying2 (by simp [Lit.wf, show IntKind.i64.min = -9223372036854775808 from rfl, show IntKind.i64.max = 9223372036854775807 from rfl]; omega)
theorem zeroP (w : World) : (zeroValue 208).run Tryz.prog w = .ok (.agg #[.int .i64 0, .int .i64 0, .int .i64 0]) w := by kernel_rfl
def Knows (D : DataW Unit) (pid : Int) (known : Bool) (a s o : Int) : Prop := D.atKey (key pid) (prodD 0 0 0) = prodD a s o /\ Maps.has D (key pid) = known
theorem offset_any (w : World) (n : Int) : Calls Tryz.prog 111 #[.int .i64 n] w fun e w' => e = .returned (.bool (decide (0 <= n) && decide (n < 1099511627776))) /\ w' = w := by
 go_enter Tryz.func111, Tryz.ntmps111
 by_cases h1 : 0 <= n
 ·have g1 : decide (0 <= n) = true := decide_eq_true h1
  go_wp2_with fail
  go_ret
  simp [h1]
 ·have g1 : decide (0 <= n) = false := decide_eq_false h1
  go_wp2_with fail
  go_ret
  exact ⟨by simp only [g1, Bool.false_and]; rfl, rfl⟩
def goodP (p s : Int) : Bool := decide (1 <= p) && (decide (p < 4294967296) && (decide (1 <= s) && decide (s < 1099511627776)))
theorem producer_any (w : World) (p s : Int) : Calls Tryz.prog 106 #[.int .i64 p, .int .i64 s] w fun e w' => e = .returned (.bool (goodP p s)) /\ w' = w := by
  go_enter Tryz.func106, Tryz.ntmps106
  rcases h1 : decide (1 <= p) with _ | _ <;> rcases h2 : decide (p < 4294967296) with _ | _ <;> rcases h3 : decide (1 <= s) with _ | _ <;>
    (go_wp2_with fail
     go_ret
     refine ⟨?_, rfl⟩
     simp only [goodP, h1, h2, h3, Bool.false_and, Bool.true_and, Bool.and_false]
     rfl)
theorem look_p {W : World} {m n : Nat} {D : DataW Unit} (h : W.ownsMap Tryz.prog 2 prodR m n D) {pid a s o : Int} {known : Bool} (h0 : -9223372036854775808 <= pid) (h1 : pid <= 9223372036854775807) (he : Knows D pid known a s o) : (Instr.lookup 210 (.map (some m)) (.int .i64 pid) true).run Tryz.prog W = .ok (.tuple #[.agg #[.int .i64 a, .int .i64 s, .int .i64 o], .bool known]) W := by
 obtain ⟨v, ps, hr, hv⟩ := h.look_ok lawI Tryz.underlying210 (zeroP W) (zd := prodD 0 0 0) (zp := []) rfl (kl := key pid) (key := .int .i64 pid) (keyI pid h0 h1)
 rw [he.1] at hv
 rw [he.2] at hr
 obtain rfl := prodR_of hv
 exact hr
def TabAt (w : World) (t m n : Nat) (D : DataW Unit) : Prop := Blk w t 212 #[.map (some m)] /\ w.ownsMap Tryz.prog 2 prodR m n D
def judgeN (known : Bool) (s o seq : Int) (size : Int) : Int × Int :=
 if known = true /\ seq = s then (2, o) else if known = true /\ seq < s then (3, 0) else if seq ≠ s + 1 then (4, 0) else if known = false /\ 64 <= size then (5, 0) else (1, 0)
theorem producer_is (p s : Int) (b : Bool) (h : goodP p s = b) (w : World) : Calls Tryz.prog 106 #[.int .i64 p, .int .i64 s] w fun e w' => e = .returned (.bool b) /\ w' = w := by
 rw [<- h]
 exact producer_any w p s
theorem judge_free (w : World) (t : Nat) : Calls Tryz.prog 48 #[.pointer (some ⟨t, 0, none⟩), .int .i64 0, .int .i64 0] w fun e w' => e = .returned (.tuple #[.int .i64 0, .int .i64 0]) /\ w' = w := by
 go_enter Tryz.func48, Tryz.ntmps48
 go_wp2_with fail
 go_ret2
 exact ⟨rfl, rfl⟩
set_option maxHeartbeats 4000000 in
theorem judge_any (w : World) (t m n : Nat) (D : DataW Unit) (h : TabAt w t m n D) (pid seq a s o : Int) (known : Bool) (hp : goodP pid seq = true) (hk : Knows D pid known a s o) (hs : 0 <= s /\ s < 1099511627776) :
  Calls Tryz.prog 48 #[.pointer (some ⟨t, 0, none⟩), .int .i64 pid, .int .i64 seq] w fun e w' => e = .returned (.tuple #[.int .i64 (judgeN known s o seq (Maps.size D)).1, .int .i64 (judgeN known s o seq (Maps.size D)).2]) /\ Below w.heap.size w w' := by
 have hp2 := hp
 simp only [goodP, Bool.and_eq_true, decide_eq_true_eq] at hp2
 have hlk := look_p h.2 (pid := pid) (by omega) (by omega) hk
 have hln := fun x => (h.2.alloc x).len Tryz.underlying210
 have c0 : w.cell? ⟨t, 0, none⟩ = some (.map (some m)) := (h.1.cell 0).trans rfl
 have c1 : ∀ x, (w.alloc x).cell? ⟨t, 0, none⟩ = some (.map (some m)) := fun x => ((h.1.alloc x).cell 0).trans rfl
 have n1 := producer_is pid seq true hp
 have g0 : (pid == 0) = false := by simp; omega
 have e1 : IntKind.i64.wrap (s + 1) = s + 1 := by rw [IntKind.wrap_i64]; omega
 clear h hp hk
 go_enter Tryz.func48, Tryz.ntmps48
 have HBA : Hid (∀ x, Below w.heap.size w (w.alloc x)) := hid (fun x => (Below.refl _ _).alloc (Nat.le_refl _) x)
 by_cases hq : seq = s
 ·subst hq
  cases known with
  | true =>
   have gq : (seq == seq) = true := by simp
   have HJ : Hid (judgeN true seq o seq (Maps.size D) = (2, o)) := hid (by unfold judgeN; rw [if_pos ⟨rfl, rfl⟩])
   go_wp2_with (first
    | (go_at_call 106; refine (n1 _).mono ?_; rintro e w1 ⟨rfl, rfl⟩)
    | fail)
   go_region_with (fail)
   all_goals
    go_wp2_with fail
    go_ret2
    exact ⟨by rw [HJ.out]; rfl, Below.drew (HBA.out _)⟩
  | false =>
   have gq : (seq != seq + 1) = true := by simp; omega
   go_wp2_with (first
    | (go_at_call 106; refine (n1 _).mono ?_; rintro e w1 ⟨rfl, rfl⟩)
    | fail)
   go_ret2
   have h3 : ¬ seq = seq + 1 := by omega
   exact ⟨by simp [judgeN, h3], HBA.out _⟩
 ·have gq : (seq == s) = false := by simpa using hq
  by_cases hlt : seq < s /\ known = true
  ·obtain ⟨hlt, rfl⟩ := hlt
   have gl : decide (seq < s) = true := decide_eq_true hlt
   go_wp2_with (first
    | (go_at_call 106; refine (n1 _).mono ?_; rintro e w1 ⟨rfl, rfl⟩)
    | fail)
   go_ret2
   exact ⟨by simp [judgeN, hq, hlt], HBA.out _⟩
  ·have hno : known = true -> ¬ seq < s := fun hk hl => hlt ⟨hl, hk⟩
   have gl : known = true -> decide (seq < s) = false := fun hk => decide_eq_false (hno hk)
   by_cases hg : seq = s + 1
   ·subst hg
    have gg : ((s + 1) != s + 1) = false := by simp
    cases known with
    | true =>
     have gl2 : decide (s + 1 < s) = false := gl rfl
     have HJ : Hid (judgeN true s o (s + 1) (Maps.size D) = (1, 0)) := hid (by unfold judgeN; rw [if_neg (fun h => absurd h.2 (by omega)), if_neg (fun h => absurd h.2 (by omega)), if_neg (fun h => h rfl), if_neg (fun h => absurd h.1 (by decide))])
     go_wp2_with (first
      | (go_at_call 106; refine (n1 _).mono ?_; rintro e w1 ⟨rfl, rfl⟩)
      | fail)
     go_ret2
     exact ⟨by rw [HJ.out]; rfl, HBA.out _⟩
    | false =>
     by_cases hf : (64 : Int) <= (Maps.size D : Int)
     ·have gf : decide ((64 : Int) <= (Maps.size D : Int)) = true := decide_eq_true hf
      have HJ : Hid (judgeN false s o (s + 1) (Maps.size D) = (5, 0)) := hid (by unfold judgeN; rw [if_neg (fun h => absurd h.1 (by decide)), if_neg (fun h => absurd h.1 (by decide)), if_neg (fun h => h rfl), if_pos ⟨rfl, hf⟩])
      go_wp2_with (first
       | (go_at_call 106; refine (n1 _).mono ?_; rintro e w1 ⟨rfl, rfl⟩)
       | fail)
      go_ret2
      exact ⟨by rw [HJ.out]; rfl, HBA.out _⟩
     ·have gf : decide ((64 : Int) <= (Maps.size D : Int)) = false := decide_eq_false hf
      have HJ : Hid (judgeN false s o (s + 1) (Maps.size D) = (1, 0)) := hid (by unfold judgeN; rw [if_neg (fun h => absurd h.1 (by decide)), if_neg (fun h => absurd h.1 (by decide)), if_neg (fun h => h rfl), if_neg (fun h => hf h.2)])
      go_wp2_with (first
       | (go_at_call 106; refine (n1 _).mono ?_; rintro e w1 ⟨rfl, rfl⟩)
       | fail)
      go_ret2
      exact ⟨by rw [HJ.out]; rfl, HBA.out _⟩
   ·have gg : (seq != s + 1) = true := by simpa using hg
    cases known with
    | true =>
     have gl2 : decide (seq < s) = false := gl rfl
     have h5 := hno rfl
     have HJ : Hid (judgeN true s o seq (Maps.size D) = (4, 0)) := hid (by unfold judgeN; rw [if_neg (fun h => hq h.2), if_neg (fun h => h5 h.2), if_pos hg])
     go_wp2_with (first
      | (go_at_call 106; refine (n1 _).mono ?_; rintro e w1 ⟨rfl, rfl⟩)
      | fail)
     go_ret2
     exact ⟨by rw [HJ.out]; rfl, HBA.out _⟩
    | false =>
     go_wp2_with (first
      | (go_at_call 106; refine (n1 _).mono ?_; rintro e w1 ⟨rfl, rfl⟩)
      | fail)
     go_ret2
     exact ⟨by simp [judgeN, hg], HBA.out _⟩
theorem judge_cases (known : Bool) (s o seq size : Int) : (judgeN known s o seq size).1 = 1 \/ (judgeN known s o seq size).1 = 2 \/ (judgeN known s o seq size).1 = 3 \/ (judgeN known s o seq size).1 = 4 \/ (judgeN known s o seq size).1 = 5 := by
 unfold judgeN
 split
 ·simp
 ·split
  ·simp
  ·split
   ·simp
   ·split <;> simp
def refN (v : Int) : Int := if v = 3 then 91 else if v = 4 then 90 else if v = 5 then 92 else 0
set_option maxHeartbeats 4000000 in
theorem refuse_any (w : World) (t m n : Nat) (D : DataW Unit) (h : TabAt w t m n D) (pid seq a s o : Int) (known : Bool) (hp : goodP pid seq = true) (hk : Knows D pid known a s o) (hs : 0 <= s /\ s < 1099511627776) :
  Calls Tryz.prog 49 #[.pointer (some ⟨t, 0, none⟩), .int .i64 pid, .int .i64 seq] w fun e w' => e = .returned (.int .i64 (refN (judgeN known s o seq (Maps.size D)).1)) /\ Below w.heap.size w w' := by
 have HJ := hid (judge_any w t m n D h pid seq a s o known hp hk hs)
 have hc := judge_cases known s o seq (Maps.size D)
 clear h hp hk hs
 generalize judgeN known s o seq (Maps.size D) = v at HJ hc
 obtain ⟨v, y⟩ := v
 dsimp only at HJ hc
 go_enter Tryz.func49, Tryz.ntmps49
 rcases hc with rfl | rfl | rfl | rfl | rfl
 all_goals
  go_wp2_with (first | (go_at_call 48; refine HJ.out.mono ?_; rintro e w1 ⟨rfl, hb1⟩; have HB1 := hid hb1; clear hb1) | fail)
  go_ret
  exact ⟨rfl, HB1.out.trans ((Below.refl _ _).alloc (by exact Nat.le_refl _) _ |>.mono HB1.out.size)⟩
theorem refuse_free (w : World) (t : Nat) : Calls Tryz.prog 49 #[.pointer (some ⟨t, 0, none⟩), .int .i64 0, .int .i64 0] w fun e w' => e = .returned (.int .i64 0) /\ Below w.heap.size w w' := by
 go_enter Tryz.func49, Tryz.ntmps49
 go_wp2_with (first | (go_at_call 48; refine (judge_free w t).mono ?_; rintro e w1 ⟨rfl, rfl⟩) | fail)
 go_ret
 exact ⟨rfl, (Below.refl _ _).alloc (Nat.le_refl _) _⟩
end Go.Proofs.YtendlmdmbkcdnaaGreatDoor.dd
