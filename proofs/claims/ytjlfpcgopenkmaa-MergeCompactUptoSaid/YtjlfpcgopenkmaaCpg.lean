/-
  The document's Compact walked.
  Conditions: the rows lie below the heap's end; at most 1048576 records each.
-/
import Derived.Test.YtjlfpcgopenkmaaCpe
import Derived.Test.YtjlfpcgopenkmaaCpf
namespace Go.Proofs.Ytjlfpcgopenkmaa.cp
open Go.RowKit

theorem keepR_skip {later l acc : List Rc} {now hor mk : Int} {r : Rc} (h : noLater r.key.data.toList (l ++ later) = false) : keepR later now hor acc mk (r :: l) = keepR later now hor acc mk l := by
  rw [keepR, if_pos h]
theorem keepR_stay {later l acc : List Rc} {now hor mk : Int} {r : Rc} (h : noLater r.key.data.toList (l ++ later) = true) (hs : stays now hor r = true) : keepR later now hor acc mk (r :: l) = keepR later now hor (acc ++ [r]) mk l := by
  rw [keepR, if_neg (by simp [h]), if_pos hs]
theorem keepR_mark {later l acc : List Rc} {now hor mk : Int} {r : Rc} (h : noLater r.key.data.toList (l ++ later) = true) (hs : stays now hor r = false) (hm : mk < r.off + 1) : keepR later now hor acc mk (r :: l) = keepR later now hor acc (r.off + 1) l := by
  rw [keepR, if_neg (by simp [h]), if_neg (by rw [hs]; decide), if_pos hm]
theorem keepR_same {later l acc : List Rc} {now hor mk : Int} {r : Rc} (h : noLater r.key.data.toList (l ++ later) = true) (hs : stays now hor r = false) (hm : ¬ mk < r.off + 1) : keepR later now hor acc mk (r :: l) = keepR later now hor acc mk l := by
  rw [keepR, if_neg (by simp [h]), if_neg (by rw [hs]; decide), if_neg hm]

theorem grown_of_below {w w' : World} (h : Below w.heap.size w w') : w.grownBy w' none := ⟨h.os, h.tape, h.output, h.size, fun k hk _ => h.block k hk⟩
theorem nil_dec (a : List Rc) : decide (a = []) = decide (a.length = 0) := by cases a <;> simp
theorem compR_order {a b : List Rc} {now hor : Int} (h : ((riseR 0 true a).2 && (riseR (riseR 0 true a).1 (decide (a.length = 0)) b).2) = false) : compR a b now hor = ([], 0, 51) := by unfold compR; rw [if_pos h]
theorem compR_arg {a b : List Rc} {now hor : Int} (h : ((riseR 0 true a).2 && (riseR (riseR 0 true a).1 (decide (a.length = 0)) b).2) = true) (hn : now < 0 ∨ hor < 0) : compR a b now hor = ([], 0, 3) := by unfold compR; rw [if_neg (by rw [h]; decide), if_pos hn]
theorem compR_ok {a b : List Rc} {now hor : Int} (h : ((riseR 0 true a).2 && (riseR (riseR 0 true a).1 (decide (a.length = 0)) b).2) = true) (hn : ¬ (now < 0 ∨ hor < 0)) : compR a b now hor = ((keepR b now (minH hor) [] 0 a).1, (keepR b now (minH hor) [] 0 a).2, 0) := by unfold compR; rw [if_neg (by rw [h]; decide), if_neg hn]
theorem trip_eq {o o' : List Rc} {m m' e e' : Int} (h : (o', m', e') = (o, m, e)) : o = o' ∧ m = m' ∧ e = e' := by injection h with h1 h2; injection h2 with h2 h3; exact ⟨h1.symm, h2.symm, h3.symm⟩

set_option maxHeartbeats 4000000 in
set_option maxRecDepth 100000 in
theorem rcompact_any (a b : List Rc) (A B : Option Addr) (c d : Nat) (now hor : Int) (w : World) (ha : Recs w w.heap.size A a) (hb : Recs w w.heap.size B b) (oka : ∀ r ∈ a, r.ok)
    (na : a.length ≤ 1048576) (nb : b.length ≤ 1048576) (n0 : -9223372036854775808 ≤ now) (n1 : now ≤ 9223372036854775807) (h0 : -9223372036854775808 ≤ hor) (h1 : hor ≤ 9223372036854775807) (out : List Rc) (mark err : Int) (hO : compR a b now hor = (out, mark, err)) :
    Calls Try.prog 11 #[.slice A a.length c, .slice B b.length d, .int .i64 now, .int .i64 hor] w fun e w' => ∃ v, e = .returned (.tuple #[v, .int .i64 mark, .int .i64 err]) ∧
      w'.ownsRow w.heap.size 33 7 v out.length (flat out) ∧ Below w.heap.size w w' := by
  obtain ⟨i0, hi0, hz0, hz1, hz2⟩ := info_parts zero33
  have N0 : Hid (I64 now) := ⟨n0, n1⟩
  have H0 : Hid (I64 hor) := ⟨h0, h1⟩
  clear n0 n1 h0 h1
  have HA := Lib.hid ha
  have HB := Lib.hid hb
  have OA := Lib.hid oka
  have HO := Lib.hid hO
  clear ha hb oka hO
  obtain ⟨fz, hz⟩ : ∃ f : Bool, ((a.length : Int) == 0) = f := ⟨_, rfl⟩
  have HZ : Hid (fz = decide (a.length = 0)) := Lib.hid (by
    rw [← hz]
    by_cases h : a.length = 0
    · rw [h]; rfl
    · rw [decide_eq_false h]; simpa using h)
  go_enter Try.func11, Try.ntmps11
  go_wp2_with fail
  refine (rrise_any a A c 0 true w w.heap.size HA.out na).mono ?_
  rintro e w1 ⟨rfl, rfl⟩
  go_wp2_with fail
  refine (rrise_any b B d _ fz w w.heap.size HB.out nb).mono ?_
  rintro e w1 ⟨rfl, rfl⟩
  have HC1 : Hid (∀ x y : Bool, (riseR 0 true a).2 = x → (riseR (riseR 0 true a).1 fz b).2 = y → ((riseR 0 true a).2 && (riseR (riseR 0 true a).1 (decide (a.length = 0)) b).2) = (x && y)) := fun x y hx hy => by rw [← HZ.out, hx, hy]
  generalize hra1 : (riseR 0 true a).1 = ra1
  generalize hrb1 : (riseR ra1 fz b).1 = rb1
  cases hra : (riseR 0 true a).2 with
  | false =>
    have hx := HC1.out false _ hra rfl
    obtain ⟨rfl, rfl, rfl⟩ := trip_eq ((compR_order hx).symm.trans HO.out)
    clear hx HO HC1 hra1 hra
    generalize (riseR ra1 fz b).2 = rb2
    clear hrb1
    go_wp2_with fail
    go_ret3
    exact ⟨_, rfl, World.ownsRow_nil _ _ _ _, Below.refl _ _⟩
  | true =>
    have HC2 := Lib.hid (fun y hy => HC1.out true y hra hy)
    clear HC1
    rw [hra1] at HC2
    cases hrb : (riseR ra1 fz b).2 with
    | false =>
      have hx := HC2.out false hrb
      obtain ⟨rfl, rfl, rfl⟩ := trip_eq ((compR_order (by rw [hra1, hx]; rfl)).symm.trans HO.out)
      clear hx HO HC2 hra1 hra hrb hrb1
      go_wp2_with fail
      go_ret3
      exact ⟨_, rfl, World.ownsRow_nil _ _ _ _, Below.refl _ _⟩
    | true =>
      have hx := HC2.out true hrb
      by_cases hneg : now < 0 ∨ hor < 0
      · obtain ⟨rfl, rfl, rfl⟩ := trip_eq ((compR_arg (by rw [hra1, hx]; rfl) hneg).symm.trans HO.out)
        clear hx HO HC2 hra1 hra hrb hrb1
        by_cases hn : now < 0
        · go_wp2_with fail
          go_ret3
          exact ⟨_, rfl, World.ownsRow_nil _ _ _ _, Below.refl _ _⟩
        · have hh : hor < 0 := by omega
          go_wp2_with fail
          go_ret3
          exact ⟨_, rfl, World.ownsRow_nil _ _ _ _, Below.refl _ _⟩
      · have HO2 := Lib.hid ((compR_ok (by rw [hra1, hx]; rfl) hneg).symm.trans HO.out)
        have HRI : Hid (riseP (-1) (a ++ b) = true) := Lib.hid (by rw [rise_same, hra1, hx]; rfl)
        clear hx HO HC2 hra1 hra hrb hrb1
        have hn : ¬ now < 0 := by omega
        have hh : ¬ hor < 0 := by omega
        obtain ⟨hq, hqe⟩ : ∃ q, q = minH hor := ⟨_, rfl⟩
        have hq0 : 0 ≤ hq ∧ hq ≤ 1099511627776 := by rw [hqe]; unfold minH; split <;> omega
        have HQ := Lib.hid hqe
        clear hqe
        by_cases hbig : hor > 1099511627776
        case' pos =>
          go_wp2_with fail
          rw [show (1099511627776 : Int) = hq by rw [HQ.out]; unfold minH; rw [if_pos (by omega)]]
        case' neg =>
          go_wp2_with fail
          rw [show Value.int IntKind.i64 hor = Value.int IntKind.i64 hq by rw [HQ.out]; unfold minH; rw [if_neg (by omega)]]
        all_goals
          clear hneg hn hh hbig
          go_loopw [15, 16, 17] (fun s15 s16 i wr => ∃ (j : Nat) (acc : List Rc) (mk : Int), j ≤ a.length ∧ i = .int .i64 j ∧ s16 = .int .i64 mk ∧ (0 ≤ mk ∧ mk ≤ 1099511627777) ∧ Hid (acc.length ≤ j) ∧ Hid (Below w.heap.size w wr) ∧
              Hid (wr.ownsRow w.heap.size 33 7 s15 acc.length (flat acc)) ∧ Hid (keepR b now hq acc mk (a.drop j) = keepR b now hq [] 0 a)) (fun _ _ i _ => a.length - (intOf i).toNat)
          case atStart => exact ⟨0, [], 0, Nat.zero_le _, rfl, rfl, by omega, Nat.le_refl _, Below.refl _ _, World.ownsRow_nil _ _ _ _, rfl⟩
          case round =>
            obtain ⟨j, acc, mk, hj, rfl, rfl, hmk, hal, HB4, HV, HKP⟩ := hrel
            by_cases hjl : j < a.length
            · obtain ⟨bb, off, rfl, hbb, hcl⟩ := HA.out.at_ hjl
              have RS := Lib.hid (fun (i : Nat) (v : Value) (h : (RcL a[j])[i]? = some v) => (HB4.out.cell (p := (⟨bb, off + j * 7, none⟩ : Addr).add i) (by rw [add_flat]; exact hbb)).trans (hcl i v h))
              have hok := OA.out a[j] (List.getElem_mem hjl)
              have hdrop := List.drop_eq_getElem_cons hjl
              have hmem : a[j] ∈ a ++ b := List.mem_append_left _ (List.getElem_mem hjl)
              have hlo := riseP_gt _ _ HRI.out _ hmem
              have hhi := riseP_lt _ _ HRI.out _ hmem
              obtain ⟨r, hrj⟩ : ∃ r, a[j] = r := ⟨_, rfl⟩
              rw [hrj] at RS hok hdrop hlo hhi
              have HJ := Lib.hid hrj
              have HD := Lib.hid hdrop
              have HTM : Hid (I64 r.time) := hok.2.2.1
              have HW4 := Lib.hid HB4.out.size
              have hb1 : acc.length + 1 ≤ 4194304 := by have := hal.out; omega
              have hb2 : (acc.length + 1) * 72 ≤ 140737488355328 := by have := hal.out; omega
              clear hcl hrj hbb hok hmem hdrop
              go_wp2_with (first
                | ((with_reducible refine at_op ⟨_, .load 33 (.tmp 55), _, _, _, _⟩ ?_); refine wpList_load_list rfl 33 (.tmp 55) rfl ⟨bb, off + j * 7, none⟩ rfl (RcL r) RS.out _ Try.underlying33 rfl (by kernel_rfl) ?_)
                | ((with_reducible refine at_op ⟨_, .store 33 (.tmp 18) (.tmp 56), _, _, _, _⟩ ?_); refine wpList_store_blk rfl 33 (.tmp 18) (.tmp 56) rfl wr.heap.size 0 rfl (RcL r) rfl (RcL_one r) 33 rc0 (Blk.new wr 33 rc0) (show 0 + 7 ≤ 7 from Nat.le_refl 7) (by kernel_rfl) ?_; intro w4 hT1 hg1 hs1; have HV4 := Lib.hid ((HV.out.alloc (.cells rc0 33)).kept hg1 (Or.inr (by intro e; have := (HV.out.lt _ e).2; omega))); have HT1 := Lib.hid hT1; have HG1 := Lib.hid hg1; have HS1 := Lib.hid hs1; clear hT1 hg1 hs1)
                | fail)
              have HBa : Hid (Below w.heap.size w w4) := below_gb (HB4.out.alloc HW4.out _) HG1.out (by rw [World.size_alloc]; exact Nat.le_succ_of_le HW4.out) HW4.out
              refine (newest_any a b _ B c d j hjl w4 w4.heap.size ((HA.out.below HBa.out).mono HBa.out.size) ((HB.out.below HBa.out).mono HBa.out.size) na nb).mono ?_
              rintro e w6 ⟨rfl, hb6⟩
              have hlt4 := HT1.out.lt
              have q0 : w6.cell? ⟨wr.heap.size, 0, none⟩ = some (.int .i64 r.kind) := (hb6.cell (p := ⟨wr.heap.size, 0, none⟩) hlt4).trans ((HT1.out.cell 0).trans (put_rc rfl r 0 _ rfl))
              have q1 : w6.cell? ⟨wr.heap.size, 1, none⟩ = some (.int .i64 r.off) := (hb6.cell (p := ⟨wr.heap.size, 1, none⟩) hlt4).trans ((HT1.out.cell 1).trans (put_rc rfl r 1 _ rfl))
              have q2 : w6.cell? ⟨wr.heap.size, 2, none⟩ = some (.int .i64 r.time) := (hb6.cell (p := ⟨wr.heap.size, 2, none⟩) hlt4).trans ((HT1.out.cell 2).trans (put_rc rfl r 2 _ rfl))
              have HT6 := Lib.hid (HT1.out.below hb6 hlt4)
              have HV6 := Lib.hid (HV4.out.kept (grown_of_below hb6) (by cases hv : Value.ownBlock _ <;> simp))
              have HB6 : Hid (Below w.heap.size w w6) := HBa.out.trans (hb6.mono HBa.out.size)
              rw [HJ.out]
              clear hb6 hlt4 HT1 HV4 HBa RS HS1 HG1
              cases hnl : noLater r.key.data.toList (a.drop (j + 1) ++ b) with
              | false =>
                go_wp2_with fail
                go_roundw
                case rel => exact ⟨j + 1, acc, mk, by omega, by go_num, rfl, hmk, Lib.hid (by have := hal.out; omega), HB6, HV6, Lib.hid (by rw [← HKP.out, HD.out, keepR_skip hnl])⟩
                case measure => simp [intOf]; omega
              | true =>
                have HNL := Lib.hid hnl
                clear hnl
                by_cases hk2 : r.kind = 2
                · by_cases hyo : youngB now r.time hq = true
                  · have hst : Hid (stays now hq r = true) := Lib.hid (by unfold stays; rw [hyo, Bool.or_true])
                    go_wp2_with fail
                    refine (ryoung_any _ _ _ _ HTM.out.1 HTM.out.2 hq0.1 hq0.2).mono ?_
                    rintro e w7 ⟨rfl, rfl⟩
                    rw [hyo]
                    go_wp2_with (first
                      | ((with_reducible refine at_op ⟨_, .load 33 (.tmp 18), _, _, _, _⟩ ?_); refine wpList_load_list rfl 33 (.tmp 18) rfl ⟨wr.heap.size, 0, none⟩ rfl [.int .i64 r.kind, .int .i64 r.off, .int .i64 r.time, .int .i64 r.pid, .int .i64 r.seq, .string r.key, .string r.val] (fun j v hv => by rw [add_flat, Nat.zero_add]; exact (HT6.out.cell j).trans (put_rc rfl r j v hv)) _ Try.underlying33 rfl (by kernel_rfl) ?_)
                      | ((with_reducible refine at_op ⟨_, .call { callee := .builtin .append, args := #[.tmp 72, .tmp 74], argTypes := #[26, 26] }, _, _, _, _⟩ ?_); refine wpList_append_own _ rfl (.tmp 72) (.tmp 74) 26 rfl w.heap.size 33 i0 _ 7 72 Try.underlying26 hi0 hz0 hz1 hz2 rfl (by decide) _ acc.length (flat acc) rfl (HV6.out.alloc _) ⟨w6.heap.size, 0, none⟩ 1 1 (RcL r) rfl rfl (by first | exact blk_cells w6 r | (have h := blk_cells w6 r; simp only [hk2] at h; exact h)) (RcL_one r) (Nat.le_of_lt (small_maxLen hb1)) hb2 (by rw [World.size_alloc]; exact Nat.le_succ_of_le HB6.out.size) ?_; intro v5 w5 hown5 hgrow5 _; have HW5 := Lib.hid hown5; have HG5 := Lib.hid hgrow5; clear hown5 hgrow5)
                      | fail)
                    have HBb : Hid (Below w.heap.size w w5) := (HB6.out.alloc HB6.out.size _).grown HG5.out (by rw [World.size_alloc]; exact Nat.le_succ_of_le HB6.out.size) (fun q hq => (HV6.out.lt q hq).1)
                    go_roundw
                    case rel => exact ⟨j + 1, acc ++ [r], mk, by omega, by go_num, rfl, hmk, Lib.hid (by have := hal.out; rw [List.length_append]; show acc.length + 1 ≤ j + 1; omega), HBb, by rw [List.length_append, flat_snoc]; exact HW5, Lib.hid (by rw [← HKP.out, HD.out, keepR_stay HNL.out hst.out])⟩
                    case measure => simp [intOf]; omega
                  · have hyo' : youngB now r.time hq = false := by simpa using hyo
                    have hst : Hid (stays now hq r = false) := Lib.hid (by unfold stays; rw [hyo', decide_eq_false (by simp [hk2])]; rfl)
                    go_wp2_with fail
                    refine (ryoung_any _ _ _ _ HTM.out.1 HTM.out.2 hq0.1 hq0.2).mono ?_
                    rintro e w7 ⟨rfl, rfl⟩
                    rw [hyo']
                    by_cases hmo : mk < r.off + 1
                    · go_wp2_with fail
                      go_roundw
                      case rel => exact ⟨j + 1, acc, r.off + 1, by omega, by go_num, by go_num, by omega, Lib.hid (by have := hal.out; omega), HB6, HV6, Lib.hid (by rw [← HKP.out, HD.out, keepR_mark HNL.out hst.out hmo])⟩
                      case measure => simp [intOf]; omega
                    · go_wp2_with fail
                      go_roundw
                      case rel => exact ⟨j + 1, acc, mk, by omega, by go_num, rfl, hmk, Lib.hid (by have := hal.out; omega), HB6, HV6, Lib.hid (by rw [← HKP.out, HD.out, keepR_same HNL.out hst.out (by omega)])⟩
                      case measure => simp [intOf]; omega
                · have hst : Hid (stays now hq r = true) := Lib.hid (by unfold stays; rw [decide_eq_true (by simpa using hk2)]; rfl)
                  go_wp2_with (first
                    | ((with_reducible refine at_op ⟨_, .load 33 (.tmp 18), _, _, _, _⟩ ?_); refine wpList_load_list rfl 33 (.tmp 18) rfl ⟨wr.heap.size, 0, none⟩ rfl [.int .i64 r.kind, .int .i64 r.off, .int .i64 r.time, .int .i64 r.pid, .int .i64 r.seq, .string r.key, .string r.val] (fun j v hv => by rw [add_flat, Nat.zero_add]; exact (HT6.out.cell j).trans (put_rc rfl r j v hv)) _ Try.underlying33 rfl (by kernel_rfl) ?_)
                    | ((with_reducible refine at_op ⟨_, .call { callee := .builtin .append, args := #[.tmp 72, .tmp 74], argTypes := #[26, 26] }, _, _, _, _⟩ ?_); refine wpList_append_own _ rfl (.tmp 72) (.tmp 74) 26 rfl w.heap.size 33 i0 _ 7 72 Try.underlying26 hi0 hz0 hz1 hz2 rfl (by decide) _ acc.length (flat acc) rfl (HV6.out.alloc _) ⟨w6.heap.size, 0, none⟩ 1 1 (RcL r) rfl rfl (by first | exact blk_cells w6 r | (have h := blk_cells w6 r; simp only [hk2] at h; exact h)) (RcL_one r) (Nat.le_of_lt (small_maxLen hb1)) hb2 (by rw [World.size_alloc]; exact Nat.le_succ_of_le HB6.out.size) ?_; intro v5 w5 hown5 hgrow5 _; have HW5 := Lib.hid hown5; have HG5 := Lib.hid hgrow5; clear hown5 hgrow5)
                    | fail)
                  have HBb : Hid (Below w.heap.size w w5) := (HB6.out.alloc HB6.out.size _).grown HG5.out (by rw [World.size_alloc]; exact Nat.le_succ_of_le HB6.out.size) (fun q hq => (HV6.out.lt q hq).1)
                  go_roundw
                  case rel => exact ⟨j + 1, acc ++ [r], mk, by omega, by go_num, rfl, hmk, Lib.hid (by have := hal.out; rw [List.length_append]; show acc.length + 1 ≤ j + 1; omega), HBb, by rw [List.length_append, flat_snoc]; exact HW5, Lib.hid (by rw [← HKP.out, HD.out, keepR_stay HNL.out hst.out])⟩
                  case measure => simp [intOf]; omega
            · have hja : j = a.length := by omega
              have hk := HKP.out
              rw [hja, List.drop_length] at hk
              have ho := HO2.out
              rw [← HQ.out, ← hk] at ho
              obtain ⟨rfl, rfl, rfl⟩ := trip_eq ho
              clear ho hk
              go_wp2_with fail
              go_ret3
              exact ⟨_, rfl, HV.out, HB4.out⟩
end Go.Proofs.Ytjlfpcgopenkmaa.cp
