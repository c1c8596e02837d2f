/-
  The program's number and label out of the parts of a line: walked.
  Conditions: parts of at most 4096 bytes; the two errors' variables hold errors.
-/
import Derived.Test.YtepalbldleegiaaGreatDoorSpa
import Derived.Test.YtepalbldleegiaaGreatDoorShelf
import Derived.Lib.ParseIntBTie
namespace Go.Proofs.YtepalbldleegiaaGreatDoor.sh
open Go.RowKit
open Go.Lib (itoa decDigits byteCells atoiAll)

theorem below_bw {w w' : World} {t : TypeId} (h : w' = w ∨ ∃ s, w' = Lib.bytesWorld w t s) : Below w.heap.size w w' := by
  rcases h with rfl | ⟨s, rfl⟩
  · exact Below.refl _ _
  · exact Lib.bytesWorld_below w t s
theorem parseInt_ok (p : Bs) (hl : p.length ≤ 4096) (v : Int) (h : numP p = some v) (w : World) :
    Calls Tryz.prog 80 #[.string (S p), .int .i64 10, .int .i64 64] w fun e w' => e = .returned (.tuple #[.int .i64 v, .nilIface]) ∧ Below w.heap.size w w' := by
  refine (Tryz.strconv_ParseInt_10_at64_ok (S p) (by rw [S_size]; omega) v (by
    rw [Lib.parseIntB_64]
    unfold numP at h
    show atoiAll (S p).data.toList = _
    rw [show (S p).data.toList = p from rfl]
    split at h
    · rename_i e; injection h with h; rw [e, h]
    · cases h) w).mono ?_
  rintro e w' ⟨rfl, h2⟩
  exact ⟨rfl, below_bw h2⟩
theorem parseInt_no (p : Bs) (hl : p.length ≤ 4096) (h : numP p = none) (w : World) (he : Errs w) :
    Calls Tryz.prog 80 #[.string (S p), .int .i64 10, .int .i64 64] w fun e w' => (∃ v t q, e = .returned (.tuple #[.int .i64 v, .iface t (.pointer (some q))])) ∧ Below w.heap.size w w' := by
  obtain ⟨-, ⟨t, q, h1⟩, t', q', h2⟩ := he
  have hd : (S p).data.toList = p := rfl
  rcases hh : atoiAll p with v | _ | _
  · unfold numP at h; rw [hh] at h; cases h
  · refine (Tryz.strconv_ParseInt_10_at64_syntax (S p) (by rw [S_size]; omega) (by rw [Lib.parseIntB_64, hd, hh] <;> rfl) _ w h1 (Or.inr ⟨_, _, rfl⟩)).mono ?_
    rintro e w' ⟨N, rfl, -, -, hb⟩
    exact ⟨⟨_, _, _, rfl⟩, hb⟩
  · refine (Tryz.strconv_ParseInt_10_at64_range (S p) (by rw [S_size]; omega) (by rw [Lib.parseIntB_64, hd, hh]) _ w h2 (Or.inr ⟨_, _, rfl⟩)).mono ?_
    rintro e w' ⟨N, rfl, -, -, hb⟩
    exact ⟨⟨_, _, _, rfl⟩, hb⟩
theorem atoi_ok (p : Bs) (hl : p.length ≤ 4096) (v : Int) (h : numP p = some v) (w : World) :
    Calls Tryz.prog 81 #[.string (S p)] w fun e w' => e = .returned (.tuple #[.int .i64 v, .nilIface]) ∧ Below w.heap.size w w' := by
  refine (Tryz.strconv_Atoi_ok (S p) (by rw [S_size]; omega) v (by
    unfold numP at h
    rw [show (S p).data.toList = p from rfl]
    split at h
    · rename_i e; injection h with h; rw [e, h]
    · cases h) w).mono ?_
  rintro e w' ⟨rfl, h2⟩
  exact ⟨rfl, below_bw h2⟩
theorem atoi_no (p : Bs) (hl : p.length ≤ 4096) (h : numP p = none) (w : World) (he : Errs w) :
    Calls Tryz.prog 81 #[.string (S p)] w fun e w' => (∃ v t q, e = .returned (.tuple #[.int .i64 v, .iface t (.pointer (some q))])) ∧ Below w.heap.size w w' := by
  obtain ⟨-, ⟨t, q, h1⟩, t', q', h2⟩ := he
  have hd : (S p).data.toList = p := rfl
  rcases hh : atoiAll p with v | _ | _
  · unfold numP at h; rw [hh] at h; cases h
  · refine (Tryz.strconv_Atoi_syntax (S p) (by rw [S_size]; omega) (by rw [hd, hh] <;> rfl) _ w h1 (Or.inr ⟨_, _, rfl⟩)).mono ?_
    rintro e w' ⟨N, rfl, -, -, hb⟩
    exact ⟨⟨_, _, _, rfl⟩, hb⟩
  · refine (Tryz.strconv_Atoi_range (S p) (by rw [S_size]; omega) (by rw [hd, hh]) _ w h2 (Or.inr ⟨_, _, rfl⟩)).mono ?_
    rintro e w' ⟨N, rfl, -, -, hb⟩
    exact ⟨⟨_, _, _, rfl⟩, hb⟩

def numR : List Bs → Option (Int × List Bs)
  | [] => none
  | p :: r => (numP p).map fun n => (n, r)
def labelR : List Bs → Option (Int × List Bs)
  | [] => none
  | p :: r => (labelP p).map fun n => (n, r)
theorem numR_any (pg : Nat) (l : List Bs) (w : World) (h : PartsAt w pg l) (he : Errs w) (hl : ∀ p ∈ l, p.length ≤ 4096) :
    Calls Tryz.prog 48 #[.pointer (some ⟨pg, 0, none⟩)] w (Reads (.int .i64) pg w (numR l)) := by
  cases l with
  | nil =>
    go_enter Tryz.func48, Tryz.ntmps48
    go_wp2_with fail
    refine (next_none pg w h).mono ?_
    rintro e w1 ⟨rfl, hg⟩
    go_wp2_with fail
    exact ⟨rfl, rfl, hg⟩
  | cons p r =>
    have hp := hl p List.mem_cons_self
    clear hl
    rcases hn : numP p with _ | n
    · have HR : Hid (numR (p :: r) = none) := Lib.hid (by simp only [numR, hn, Option.map_none])
      rw [HR.out]
      go_enter Tryz.func48, Tryz.ntmps48
      go_wp2_with fail
      refine (next_some pg p r w h).mono ?_
      rintro e w1 ⟨rfl, hg, hp1⟩
      have HE := Lib.hid (he.gb hg h.1)
      go_wp2_with fail
      refine (parseInt_no p hp hn w1 HE.out).mono ?_
      rintro e w2 ⟨⟨v, t, q, rfl⟩, hb⟩
      have HG : Hid (w.grownBy w2 (some pg)) := gb_trans hg (gb_below pg hb)
      clear hb hg
      go_wp2_with fail
      exact ⟨rfl, rfl, HG.out⟩
    · have HR : Hid (numR (p :: r) = some (n, r)) := Lib.hid (by simp only [numR, hn, Option.map_some])
      rw [HR.out]
      go_enter Tryz.func48, Tryz.ntmps48
      go_wp2_with fail
      refine (next_some pg p r w h).mono ?_
      rintro e w1 ⟨rfl, hg, hp1⟩
      go_wp2_with fail
      refine (parseInt_ok p hp n hn w1).mono ?_
      rintro e w2 ⟨rfl, hb⟩
      have HG : Hid (w.grownBy w2 (some pg)) := gb_trans hg (gb_below pg hb)
      have HP := Lib.hid (hp1.below hb)
      clear hb hg hp1
      go_wp2_with fail
      go_ret
      exact ⟨rfl, HG.out, HP.out⟩
theorem label_read (pg : Nat) (l : List Bs) (w : World) (h : PartsAt w pg l) (he : Errs w) (hl : ∀ p ∈ l, p.length ≤ 4096) :
    Calls Tryz.prog 38 #[.pointer (some ⟨pg, 0, none⟩)] w (Reads (.int .i64) pg w (labelR l)) := by
  rcases hn : numR l with _ | ⟨n, r⟩
  · have HR : Hid (labelR l = none) := Lib.hid (by
      cases l with
      | nil => rfl
      | cons p r =>
        simp only [numR, Option.map_eq_none_iff] at hn
        simp only [labelR, labelP, hn, Option.bind_none, Option.map_none])
    rw [HR.out]
    go_enter Tryz.func38, Tryz.ntmps38
    go_wp2_with fail
    refine (numR_any pg l w h he hl).mono ?_
    rw [hn]
    rintro e w1 ⟨rfl, hg⟩
    go_wp2_with fail
    exact ⟨rfl, rfl, hg⟩
  · have HR : Hid (labelR l = if n < 0 ∨ 999 < n then none else some (n, r)) := Lib.hid (by
      cases l with
      | nil => cases hn
      | cons p r' =>
        simp only [numR, Option.map_eq_some_iff] at hn
        obtain ⟨m, hm, e⟩ := hn
        injection e with e1 e2
        subst e1 e2
        simp only [labelR, labelP, hm, Option.bind_some]
        split <;> rfl)
    have HN := Lib.hid hn
    clear hn
    by_cases h0 : n < 0
    · rw [HR.out, if_pos (Or.inl h0)]
      go_enter Tryz.func38, Tryz.ntmps38
      go_wp2_with fail
      refine (numR_any pg l w h he hl).mono ?_
      rw [HN.out]
      rintro e w1 ⟨rfl, hg, hp⟩
      go_wp2_with fail
      all_goals exact ⟨rfl, rfl, hg⟩
    · by_cases h1 : 999 < n
      · rw [HR.out, if_pos (Or.inr h1)]
        go_enter Tryz.func38, Tryz.ntmps38
        go_wp2_with fail
        refine (numR_any pg l w h he hl).mono ?_
        rw [HN.out]
        rintro e w1 ⟨rfl, hg, hp⟩
        go_wp2_with fail
        all_goals exact ⟨rfl, rfl, hg⟩
      · rw [HR.out, if_neg (by omega)]
        go_enter Tryz.func38, Tryz.ntmps38
        go_wp2_with fail
        refine (numR_any pg l w h he hl).mono ?_
        rw [HN.out]
        rintro e w1 ⟨rfl, hg, hp⟩
        go_wp2_with fail
        all_goals
          go_ret
          exact ⟨rfl, hg, hp⟩
end Go.Proofs.YtepalbldleegiaaGreatDoor.sh
