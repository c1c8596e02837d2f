/-
  The document's rise, newest and young walked.
  Conditions: the rows lie below the heap's end; at most 1048576 records each.
-/
import Derived.Test.YtjlfpcgopenkmaaCpd
namespace Go.Proofs.Ytjlfpcgopenkmaa.cp
open Go.RowKit

theorem ryoung_any (now time hor : Int) (w : World) (t0 : -9223372036854775808 ≤ time) (t1 : time ≤ 9223372036854775807) (r0 : 0 ≤ hor) (r1 : hor ≤ 1099511627776) :
    Calls Try.prog 23 #[.int .i64 time, .int .i64 now, .int .i64 hor] w fun e w' => e = .returned (.bool (youngB now time hor)) ∧ w = w' := by
  by_cases c : 0 < time
  · by_cases d : 9223372036854775807 - time < hor
    · go_enter Try.func23, Try.ntmps23
      go_wp2
      go_ret
      exact ⟨ret_bool (by unfold youngB; rw [decide_eq_true (by omega : 0 < time), decide_eq_true (by omega : 9223372036854775807 - time < hor)]; rfl), rfl⟩
    · go_enter Try.func23, Try.ntmps23
      go_wp2
      all_goals
        go_ret
        exact ⟨ret_bool (by unfold youngB; rw [decide_eq_false (by omega : ¬ 9223372036854775807 - time < hor)]; simp), rfl⟩
  · go_enter Try.func23, Try.ntmps23
    go_wp2
    all_goals
      go_ret
      exact ⟨ret_bool (by unfold youngB; rw [decide_eq_false (by omega : ¬ 0 < time)]; simp), rfl⟩

theorem riseR_stop {last : Int} {first : Bool} {r : Rc} {l : List Rc} (h : r.off < 0 ∨ 1099511627776 ≤ r.off ∨ (first = false ∧ r.off ≤ last)) : riseR last first (r :: l) = (last, false) := by
  rw [riseR, if_pos h]
theorem riseR_go {last : Int} {first : Bool} {r : Rc} {l : List Rc} (h : ¬ (r.off < 0 ∨ 1099511627776 ≤ r.off ∨ (first = false ∧ r.off ≤ last))) : riseR last first (r :: l) = riseR r.off false l := by
  rw [riseR, if_neg h]
theorem pair_ret {x : Int} {y : Bool} {b : Int × Bool} (h : b = (x, y)) : Ending.returned (.tuple #[.int .i64 x, .bool y]) = .returned (.tuple #[.int .i64 b.1, .bool b.2]) := by rw [h]

set_option maxHeartbeats 2000000 in
theorem rrise_any (l : List Rc) (A : Option Addr) (c : Nat) (last : Int) (first : Bool) (w : World) (B : Nat) (hr : Recs w B A l) (hn : l.length ≤ 1048576) :
    Calls Try.prog 21 #[.slice A l.length c, .int .i64 last, .bool first] w fun e w' => e = .returned (.tuple #[.int .i64 (riseR last first l).1, .bool (riseR last first l).2]) ∧ w = w' := by
  have HR := Lib.hid hr
  clear hr
  go_enter Try.func21, Try.ntmps21
  go_wp2_with fail
  go_loopw [1, 2, 8] (fun s1 s2 i wr => ∃ (j : Nat) (la : Int) (fi : Bool), j ≤ l.length ∧ i = .int .i64 j ∧ s1 = .int .i64 la ∧ s2 = .bool fi ∧ Hid (riseR la fi (l.drop j) = riseR last first l) ∧ w = wr) (fun _ _ i _ => l.length - (intOf i).toNat)
  case atStart => exact ⟨0, last, first, Nat.zero_le _, rfl, rfl, rfl, rfl, rfl⟩
  case round =>
    obtain ⟨j, la, fi, hj, rfl, rfl, rfl, HQ, rfl⟩ := hrel
    by_cases hlt : j < l.length
    · obtain ⟨b, off, rfl, hB, hc⟩ := HR.out.at_ hlt
      have q1 := hc 1 _ rfl
      rw [add_flat] at q1
      have hdrop := List.drop_eq_getElem_cons hlt
      generalize hrj : l[j] = r at *
      have HD := Lib.hid hdrop
      clear hc hdrop hrj hB
      by_cases c0 : r.off < 0
      · go_wp2_with fail
        go_ret2
        exact ⟨pair_ret (by rw [← HQ.out, HD.out, riseR_stop (.inl c0)]), rfl⟩
      · by_cases c1 : 1099511627776 ≤ r.off
        · go_wp2_with fail
          go_ret2
          exact ⟨pair_ret (by rw [← HQ.out, HD.out, riseR_stop (.inr (.inl c1))]), rfl⟩
        · cases fi with
          | true =>
            go_wp2_with fail
            go_roundw
            case rel => exact ⟨j + 1, r.off, false, by omega, by go_num, rfl, rfl, Lib.hid (by rw [← HQ.out, HD.out, riseR_go (by simp; omega)]), trivial⟩
            case measure => simp [intOf]; omega
          | false =>
            by_cases c2 : r.off ≤ la
            · go_wp2_with fail
              go_ret2
              exact ⟨pair_ret (by rw [← HQ.out, HD.out, riseR_stop (.inr (.inr ⟨rfl, c2⟩))]), rfl⟩
            · go_wp2_with fail
              go_roundw
              case rel => exact ⟨j + 1, r.off, false, by omega, by go_num, rfl, rfl, Lib.hid (by rw [← HQ.out, HD.out, riseR_go (by simp; omega)]), trivial⟩
              case measure => simp [intOf]; omega
    · obtain rfl : j = l.length := by omega
      go_wp2_with fail
      go_ret2
      exact ⟨pair_ret (by rw [← HQ.out, List.drop_length, riseR]), rfl⟩

theorem noLater_cons {k : List UInt8} {r : Rc} {l : List Rc} : noLater k (r :: l) = (!(r.key.data.toList == k) && noLater k l) := rfl
theorem noLater_append {k : List UInt8} {a b : List Rc} : noLater k (a ++ b) = (noLater k a && noLater k b) := by simp [noLater, List.all_append]

set_option maxHeartbeats 2000000 in
theorem newest_any (a b : List Rc) (A D : Option Addr) (c d : Nat) (i : Nat) (hi : i < a.length) (w : World) (B : Nat) (ha : Recs w B A a) (hb : Recs w B D b) (na : a.length ≤ 1048576) (nb : b.length ≤ 1048576) :
    Calls Try.prog 22 #[.slice A a.length c, .slice D b.length d, .int .i64 i] w fun e w' => e = .returned (.bool (noLater a[i].key.data.toList (a.drop (i + 1) ++ b))) ∧ Below B w w' := by
  obtain ⟨ba, offa, rfl, hBa, hca⟩ := ha.at_ hi
  have qi := hca 5 _ rfl
  rw [add_flat] at qi
  generalize hri : a[i] = ri at *
  have HA := Lib.hid ha
  have HBB := Lib.hid hb
  have QI := Lib.hid qi
  clear ha hb hca hri qi
  go_enter Try.func22, Try.ntmps22
  go_wp2_with fail
  go_loopw [7] (fun s wr => ∃ (k : Nat), i < k ∧ k ≤ a.length ∧ s = .int .i64 k ∧ Hid (noLater ri.key.data.toList (a.drop k) = noLater ri.key.data.toList (a.drop (i + 1))) ∧ Hid (Below B w wr)) (fun s _ => a.length - (intOf s).toNat)
  case atStart => exact ⟨i + 1, by omega, by omega, by go_num, rfl, Below.refl _ _⟩
  case round =>
    obtain ⟨k, hik, hk, rfl, HQ, HB⟩ := hrel
    by_cases hlt : k < a.length
    · obtain ⟨ba', offa', e, _, hc⟩ := HA.out.at_ hlt
      injection e with e; injection e with e1 e2
      subst e1 e2
      have h5 := hc 5 _ rfl
      rw [add_flat] at h5
      have qk := (HB.out.cell (p := ⟨ba, offa + k * 7 + 5, none⟩) hBa).trans h5
      have qi := (HB.out.cell (p := ⟨ba, offa + i * 7 + 5, none⟩) hBa).trans QI.out
      have hdrop := List.drop_eq_getElem_cons hlt
      generalize hrk : a[k] = rk at *
      have HD := Lib.hid hdrop
      clear hc hrk hdrop h5
      have hkq : (rk.key.toList == ri.key.toList) = (rk.key.data.toList == ri.key.data.toList) := by simp only [ByteArray.toList_eq]
      have HKQ := Lib.hid hkq
      clear hkq
      cases he : (rk.key.toList == ri.key.toList) with
      | true =>
        have HE := Lib.hid (HKQ.out.symm.trans he)
        go_wp2_with fail
        go_region
        all_goals go_wp2_with fail
        all_goals
          go_ret
          exact ⟨ret_bool (by rw [noLater_append, ← HQ.out, HD.out, noLater_cons, HE.out]; rfl), HB.out.drew⟩
      | false =>
        have HE := Lib.hid (HKQ.out.symm.trans he)
        go_wp2_with fail
        go_region
        all_goals go_wp2_with fail
        all_goals
          go_roundw
          case rel => exact ⟨k + 1, by omega, by omega, by go_num, Lib.hid (by rw [← HQ.out, HD.out, noLater_cons, HE.out]; rfl), HB.out.drew⟩
          case measure => simp [intOf]; omega
    · have hka : k = a.length := by omega
      have HQ2 : Hid (noLater ri.key.data.toList (a.drop (i + 1)) = true) := Lib.hid (by rw [← HQ.out, hka, List.drop_length]; rfl)
      have HB2 := HB
      clear hka HQ HB
      go_wp2_with fail
      obtain ⟨wo, rfl⟩ : ∃ wo : World, wo = wr := ⟨_, rfl⟩
      go_loopw [8] (fun s wr => ∃ (q : Nat), q ≤ b.length ∧ s = .int .i64 q ∧ Hid (noLater ri.key.data.toList (b.drop q) = noLater ri.key.data.toList b) ∧ Hid (Below B w wr)) (fun s _ => b.length - (intOf s).toNat)
      case atStart => exact ⟨0, Nat.zero_le _, rfl, rfl, HB2⟩
      case round =>
        obtain ⟨q, hq, rfl, HQ, HB⟩ := hrel
        by_cases hlt : q < b.length
        · obtain ⟨bb, offb, rfl, hBb, hc⟩ := HBB.out.at_ hlt
          have h5 := hc 5 _ rfl
          rw [add_flat] at h5
          have qk := (HB.out.cell (p := ⟨bb, offb + q * 7 + 5, none⟩) hBb).trans h5
          have qi := (HB.out.cell (p := ⟨ba, offa + i * 7 + 5, none⟩) hBa).trans QI.out
          have hdrop := List.drop_eq_getElem_cons hlt
          generalize hrk : b[q] = rk at *
          have HD := Lib.hid hdrop
          clear hc hrk hdrop h5
          have hkq : (rk.key.toList == ri.key.toList) = (rk.key.data.toList == ri.key.data.toList) := by simp only [ByteArray.toList_eq]
          have HKQ := Lib.hid hkq
          clear hkq
          cases he : (rk.key.toList == ri.key.toList) with
          | true =>
            have HE := Lib.hid (HKQ.out.symm.trans he)
            go_wp2_with fail
            go_region
            all_goals go_wp2_with fail
            all_goals
              go_ret
              exact ⟨ret_bool (by rw [noLater_append, HQ2.out, ← HQ.out, HD.out, noLater_cons, HE.out]; rfl), HB.out.drew⟩
          | false =>
            have HE := Lib.hid (HKQ.out.symm.trans he)
            go_wp2_with fail
            go_region
            all_goals go_wp2_with fail
            all_goals
              go_roundw
              case rel => exact ⟨q + 1, by omega, by go_num, Lib.hid (by rw [← HQ.out, HD.out, noLater_cons, HE.out]; rfl), HB.out.drew⟩
              case measure => simp [intOf]; omega
        · have hqb : q = b.length := by omega
          go_wp2_with fail
          go_ret
          exact ⟨ret_bool (by rw [noLater_append, HQ2.out, ← HQ.out, hqb, List.drop_length]; rfl), HB.out⟩
end Go.Proofs.Ytjlfpcgopenkmaa.cp
