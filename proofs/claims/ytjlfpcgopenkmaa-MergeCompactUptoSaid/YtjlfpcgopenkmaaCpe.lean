/-
  merge.Compact walked.
  Conditions: the rows lie below the heap's end; at most 1048576 records each.
-/
import Derived.Test.YtjlfpcgopenkmaaCpd
import Derived.Maps.OwnOps
namespace Go.Proofs.Ytjlfpcgopenkmaa.cp
open Go.RowKit Go.Maps Go.WideMaps

theorem law9 : Keyed Try.prog 9 := string_keyed Try.underlying9
theorem zero2 (w : World) : (zeroValue 2).run Try.prog w = .ok (.int .i64 0) w := by kernel_rfl
def two {α : Type} (x y : α) (k : Nat) : α := if k = 0 then x else y
theorem owns_base {w : World} {b b' : Nat} {v : Value} {n : Nat} {xs : List Value} (h : w.ownsRow b 33 7 v n xs) (hb : b' ≤ b) : w.ownsRow b' 33 7 v n xs := by
  refine ⟨h.1, ?_⟩
  rcases h.2 with h2 | ⟨g, cap, cur, e, hg, r⟩
  · exact .inl h2
  · exact .inr ⟨g, cap, cur, e, by omega, r⟩
theorem riseP_lt (l : List Rc) : ∀ x, riseP x l = true → ∀ r ∈ l, r.off < 1099511627776 := by
  induction l with
  | nil => intro x _ r hr; cases hr
  | cons s l ih =>
    intro x hx r hr
    unfold riseP at hx
    by_cases c : s.off ≤ x ∨ 1099511627776 ≤ s.off
    · rw [if_pos c] at hx; cases hx
    · rw [if_neg c] at hx
      rcases List.mem_cons.1 hr with rfl | h
      · omega
      · exact ih _ hx r h
theorem small_maxLen {n : Nat} (h : n ≤ 4194304) : n < maxLen := by unfold maxLen; omega
theorem two_mem {a b : List Rc} {k : Nat} {r : Rc} (h : r ∈ two a b k) : r ∈ a ∨ r ∈ b := by
  unfold two at h
  split at h
  · exact .inl h
  · exact .inr h
theorem pre_two (a b : List Rc) : preL (two a b) 2 = a ++ b := by simp [preL, two]

theorem keepP_skip {all l acc : List Rc} {now hor mk : Int} {r : Rc} (h : (lastOff r.key.data.toList all).getD 0 ≠ r.off) : keepP all now hor acc mk (r :: l) = keepP all now hor acc mk l := by
  rw [keepP, if_pos h]
theorem keepP_stay {all l acc : List Rc} {now hor mk : Int} {r : Rc} (h : (lastOff r.key.data.toList all).getD 0 = r.off) (hs : stays now hor r = true) : keepP all now hor acc mk (r :: l) = keepP all now hor (acc ++ [r]) mk l := by
  rw [keepP, if_neg (by simp [h]), if_pos hs]
theorem keepP_mark {all l acc : List Rc} {now hor mk : Int} {r : Rc} (h : (lastOff r.key.data.toList all).getD 0 = r.off) (hs : stays now hor r = false) : keepP all now hor acc mk (r :: l) = keepP all now hor acc (r.off + 1) l := by
  rw [keepP, if_neg (by simp [h]), if_neg (by rw [hs]; decide)]
theorem blk_cells (w : World) (r : Rc) : ∀ (j : Nat) (u : Value), (RcL r)[j]? = some u →
    (w.alloc (.cells #[.int .i64 r.kind, .int .i64 r.off, .int .i64 r.time, .int .i64 r.pid, .int .i64 r.seq, .string r.key, .string r.val] 33)).cell? ((⟨w.heap.size, 0, none⟩ : Addr).add j) = some u := fun j u hu => by
  rw [add_flat, Nat.zero_add]
  exact ((Blk.new w 33 (RcL r).toArray).cell j).trans (by simpa using hu)

set_option maxHeartbeats 4000000 in
set_option maxRecDepth 100000 in
theorem compact_any (a b : List Rc) (A B : Option Addr) (c d : Nat) (now hor : Int) (w : World) (ha : Recs w w.heap.size A a) (hb : Recs w w.heap.size B b) (oka : ∀ r ∈ a, r.ok) (okb : ∀ r ∈ b, r.ok)
    (na : a.length ≤ 1048576) (nb : b.length ≤ 1048576) (n0 : -9223372036854775808 ≤ now) (n1 : now ≤ 9223372036854775807) (h0 : -9223372036854775808 ≤ hor) (h1 : hor ≤ 9223372036854775807) (out : List Rc) (mark err : Int) (hO : compP a b now hor = (out, mark, err)) :
    Calls Try.prog 13 #[.slice A a.length c, .slice B b.length d, .int .i64 now, .int .i64 hor] w fun e w' => ∃ v, e = .returned (.tuple #[v, .int .i64 mark, .int .i64 err]) ∧
      w'.ownsRow w.heap.size 33 7 v out.length (flat out) ∧ Below w.heap.size w w' := by
  obtain ⟨i0, hi0, hz0, hz1, hz2⟩ := info_parts zero33
  have N0 : Hid (I64 now) := ⟨n0, n1⟩
  have H0 : Hid (I64 hor) := ⟨h0, h1⟩
  clear n0 n1 h0 h1
  have hmm := @run_makeMap Try.prog
  go_enter Try.func13, Try.ntmps13
  go_wp2_with fail
  have hR0 : ∀ k, k < 2 → Recs (w.alloc (Obj.cells #[Value.slice A a.length c, Value.slice B b.length d] 26)) (w.alloc (Obj.cells #[Value.slice A a.length c, Value.slice B b.length d] 26)).heap.size (two A B k) (two a b k) := by
    intro k hk
    rw [World.size_alloc]
    rcases (by omega : k = 0 ∨ k = 1) with rfl | rfl
    · exact (ha.below ((Below.refl _ _).alloc (Nat.le_refl _) _)).mono (Nat.le_succ _)
    · exact (hb.below ((Below.refl _ _).alloc (Nat.le_refl _) _)).mono (Nat.le_succ _)
  refine (rise_any (two a b) (two A B) (two c d) _ w.heap.size (by rw [World.size_alloc]; exact Nat.lt_succ_self _) ?_ hR0 ?_).mono ?_
  · intro k hk
    have hB := Blk.new w 26 #[Value.slice A a.length c, Value.slice B b.length d]
    rw [hB.cell]
    rcases (by omega : k = 0 ∨ k = 1) with rfl | rfl <;> rfl
  · intro k hk
    rcases (by omega : k = 0 ∨ k = 1) with rfl | rfl
    · exact na
    · exact nb
  rintro e w1 ⟨rfl, hb1⟩
  have HB1 : Hid (Below w.heap.size w w1) := ((Below.refl _ _).alloc (Nat.le_refl _) _).trans (hb1.mono (by rw [World.size_alloc]; exact Nat.le_succ _))
  rw [pre_two]
  have HA := Lib.hid ha
  have HB := Lib.hid hb
  have OA := Lib.hid oka
  have OB := Lib.hid okb
  clear hR0 hb1 ha hb oka okb
  cases hR : riseP (-1) (a ++ b) with
  | false =>
    have e0 : compP a b now hor = ([], 0, 51) := by unfold compP; rw [if_pos hR]
    rw [e0] at hO
    obtain ⟨rfl, rfl, rfl⟩ : out = [] ∧ mark = 0 ∧ err = 51 := by injection hO with h1 h2; injection h2 with h2 h3; exact ⟨h1.symm, h2.symm, h3.symm⟩
    go_wp2_with fail
    go_ret3
    exact ⟨_, rfl, World.ownsRow_nil _ _ _ _, HB1.out⟩
  | true =>
    by_cases hneg : now < 0 ∨ hor < 0
    · have e0 : compP a b now hor = ([], 0, 3) := by unfold compP; rw [if_neg (by rw [hR]; decide), if_pos hneg]
      rw [e0] at hO
      obtain ⟨rfl, rfl, rfl⟩ : out = [] ∧ mark = 0 ∧ err = 3 := by injection hO with h1 h2; injection h2 with h2 h3; exact ⟨h1.symm, h2.symm, h3.symm⟩
      by_cases hn : now < 0
      · go_wp2_with fail
        go_ret3
        exact ⟨_, rfl, World.ownsRow_nil _ _ _ _, HB1.out⟩
      · have hh : hor < 0 := by omega
        go_wp2_with fail
        go_ret3
        exact ⟨_, rfl, World.ownsRow_nil _ _ _ _, HB1.out⟩
    · have e0 : compP a b now hor = ((keepP (a ++ b) now (minH hor) [] 0 a).1, (keepP (a ++ b) now (minH hor) [] 0 a).2, 0) := by unfold compP; rw [if_neg (by rw [hR]; decide), if_neg hneg]
      rw [e0] at hO
      have HO := Lib.hid hO
      have HRR := Lib.hid hR
      have hn : 0 ≤ now := by omega
      have hh : 0 ≤ hor := by omega
      obtain ⟨hq, hqe⟩ : ∃ q, q = minH hor := ⟨_, rfl⟩
      have hq0 : 0 ≤ hq ∧ hq ≤ 1099511627776 := by rw [hqe]; unfold minH; split <;> omega
      have HQ := Lib.hid hqe
      clear e0 hO hR
      go_wp2_with fail
      case' inl => rw [show (1099511627776 : Int) = hq by rw [HQ.out]; unfold minH; rw [if_pos (by omega)]]
      case' inr => rw [show Value.int IntKind.i64 hor = Value.int IntKind.i64 hq by rw [HQ.out]; unfold minH; rw [if_neg (by omega)]]
      all_goals
        have hown0 := World.ownsMap_made (H := Unit) w1 Try.prog 9 (plainElem Try.prog 2)
        obtain ⟨M, hM⟩ : ∃ M, M = w1.heap.size := ⟨_, rfl⟩
        have hMw : w.heap.size ≤ M := by rw [hM]; exact HB1.out.size
        have hT0 := Blk.new (w1.alloc (.map #[] 0)) 26 #[Value.slice A a.length c, Value.slice B b.length d]
        simp only [World.size_alloc, ← hM] at hT0 hown0 ⊢
        have HOWN0 := Lib.hid (hown0.alloc (.cells #[Value.slice A a.length c, Value.slice B b.length d] 26))
        have HT0 := Lib.hid hT0
        have HB2 : Hid (Below w.heap.size w ((w1.alloc (.map #[] 0)).alloc (.cells #[Value.slice A a.length c, Value.slice B b.length d] 26))) := (HB1.out.alloc HB1.out.size _).alloc (by rw [World.size_alloc]; exact Nat.le_succ_of_le HB1.out.size) _
        clear hown0 hT0 HB1 hM hqe
        go_loopw [40] (fun i wr => ∃ (k m : Nat), k ≤ 2 ∧ i = .int .i64 k ∧ Hid (m ≤ k * 1048576) ∧ Hid (Below w.heap.size w wr) ∧ Hid (wr.ownsMap (H := Unit) Try.prog 9 (plainElem Try.prog 2) M m (mapD (preL (two a b) k) (.map []))) ∧
            Hid (Blk wr (M + 1) 26 #[Value.slice A a.length c, Value.slice B b.length d])) (fun i _ => 2 - (intOf i).toNat)
        case atStart => exact ⟨0, 0, by omega, rfl, Nat.zero_le _, HB2, HOWN0, HT0⟩
        case round =>
          obtain ⟨k, m, hk, rfl, hm, HB3, HOWN, HT⟩ := hrel
          by_cases hlt : k < 2
          · obtain ⟨L, hL⟩ : ∃ L, L = two a b k := ⟨_, rfl⟩
            obtain ⟨S, hS⟩ : ∃ S, S = two A B k := ⟨_, rfl⟩
            obtain ⟨C, hC⟩ : ∃ C, C = two c d k := ⟨_, rfl⟩
            have q0 : wr.cell? ⟨M + 1, k, none⟩ = some (.slice S L.length C) := by
              rw [HT.out.cell, hL, hS, hC]
              rcases (by omega : k = 0 ∨ k = 1) with rfl | rfl <;> rfl
            have hLn : L.length ≤ 1048576 := by
              rw [hL]
              rcases (by omega : k = 0 ∨ k = 1) with rfl | rfl
              · exact na
              · exact nb
            have HR : Hid (Recs w w.heap.size S L) := by
              rw [hL, hS]
              rcases (by omega : k = 0 ∨ k = 1) with rfl | rfl
              · exact HA
              · exact HB
            have HK : Hid (∀ r ∈ L, r.ok) := fun r hr => by
              rw [hL] at hr
              rcases two_mem hr with h | h
              · exact OA.out r h
              · exact OB.out r h
            have HL := Lib.hid hL
            have hm0 : Hid (m ≤ k * 1048576 + 0) := Lib.hid (Nat.le_trans hm.out (Nat.le_add_right _ 0))
            have hd : decide ((k : Int) < 2) = true := decide_eq_true (by omega)
            clear hL hS hC
            go_wp2_with fail
            obtain ⟨wo, rfl⟩ : ∃ wo : World, wo = wr := ⟨_, rfl⟩
            go_loopw [46] (fun i wr => ∃ (j n : Nat), j ≤ L.length ∧ i = .int .i64 j ∧ Hid (n ≤ k * 1048576 + j) ∧ Hid (Below w.heap.size w wr) ∧ Hid (wr.ownsMap (H := Unit) Try.prog 9 (plainElem Try.prog 2) M n (mapD (preL (two a b) k ++ L.take j) (.map []))) ∧
                Hid (Blk wr (M + 1) 26 #[Value.slice A a.length c, Value.slice B b.length d])) (fun i _ => L.length - (intOf i).toNat)
            case atStart => exact ⟨0, m, Nat.zero_le _, rfl, hm0, HB3, by rw [List.take_zero, List.append_nil]; exact HOWN, HT⟩
            case round =>
              obtain ⟨j, n, hj, rfl, hnn, HB4, HOWN4, HT4⟩ := hrel
              by_cases hjl : j < L.length
              · obtain ⟨bb, off, rfl, hbb, hcl⟩ := HR.out.at_ hjl
                have RS := Lib.hid (fun (i : Nat) (v : Value) (h : (RcL L[j])[i]? = some v) => (HB4.out.cell (p := (⟨bb, off + j * 7, none⟩ : Addr).add i) (by rw [add_flat]; exact hbb)).trans (hcl i v h))
                have hok := HK.out L[j] (List.getElem_mem hjl)
                generalize hrj : L[j] = r at *
                have HJ := Lib.hid hrj
                have HKY : Hid (r.key.size ≤ maxLen) := hok.2.2.2.2.2.1
                have HOF : Hid (I64 r.off) := hok.2.1
                have hMl := HT4.out.lt
                have hnm : n < maxLen := small_maxLen (by have := hnn.out; omega)
                have HW4 := Lib.hid HB4.out.size
                clear hcl hrj hbb hok hmm
                go_wp2_with (first
                  | ((with_reducible refine at_op ⟨_, .load 33 (.tmp 48), _, _, _, _⟩ ?_); refine wpList_load_list rfl 33 (.tmp 48) rfl ⟨bb, off + j * 7, none⟩ rfl (RcL r) RS.out _ Try.underlying33 rfl (by kernel_rfl) ?_)
                  | ((with_reducible refine at_op ⟨_, .store 33 (.tmp 15) (.tmp 49), _, _, _, _⟩ ?_); refine wpList_store_blk rfl 33 (.tmp 15) (.tmp 49) rfl wr.heap.size 0 rfl (RcL r) rfl (RcL_one r) 33 rc0 (Blk.new wr 33 rc0) (show 0 + 7 ≤ 7 from Nat.le_refl 7) (by kernel_rfl) ?_; intro w4 hT1 hg1 hs1; have q1 : w4.cell? ⟨wr.heap.size, 1, none⟩ = some (.int .i64 r.off) := (hT1.cell 1).trans (put_rc rfl r 1 _ rfl); have q5 : w4.cell? ⟨wr.heap.size, 5, none⟩ = some (.string r.key) := (hT1.cell 5).trans (put_rc rfl r 5 _ rfl); have HO4 := Lib.hid ((HOWN4.out.alloc _).kept hg1 (by intro e; injection e with e; omega)); have HG1 := Lib.hid hg1; have HS1 := Lib.hid hs1; clear hT1 hg1 hs1)
                  | ((with_reducible refine at_op ⟨_, .mapUpdate 42 (.tmp 50) (.tmp 52) (.tmp 54), _, _, _, _⟩ ?_); refine wpList_mapUpdate_own _ rfl (.tmp 50) (.tmp 52) (.tmp 54) 42 rfl 9 2 law9 Try.underlying42 _ M n _ rfl HO4.out hnm _ _ _ rfl rfl (keyOf_string_mk Try.underlying9 HKY.out) _ [] (plainElem_int Try.underlying2 (WalkArith.wf_i64 HOF.out)) ?_; intro w5 hown5 hg5; have HO5 := Lib.hid hown5; have HG5 := Lib.hid hg5; clear hown5 hg5))
                have e1 : preL (two a b) k ++ L.take (j + 1) = (preL (two a b) k ++ L.take j) ++ [r] := by rw [take_snoc' _ _ hjl, HJ.out, List.append_assoc]
                have HBa : Hid (Below w.heap.size w w4) := below_gb (HB4.out.alloc HW4.out _) HG1.out (by rw [World.size_alloc]; exact Nat.le_succ_of_le HW4.out) HW4.out
                have HBb : Hid (Below w.heap.size w w5) := below_gb HBa.out HG5.out HBa.out.size hMw
                have HTb : Hid (Blk w5 (M + 1) 26 #[Value.slice A a.length c, Value.slice B b.length d]) := ((HT4.out.alloc _).gb HG1.out (by omega)).gb HG5.out (by omega)
                go_roundw
                case rel => exact ⟨j + 1, n + 1, by omega, by go_num, Lib.hid (by have := hnn.out; omega), HBb, by rw [e1, mapD_snoc]; exact HO5, HTb⟩
                case measure => simp [intOf]; omega
              · obtain rfl : j = L.length := by omega
                go_wp2_with fail
                go_roundw
                case rel => exact ⟨k + 1, n, by omega, by go_num, Lib.hid (by have := hnn.out; omega), HB4, by rw [List.take_length] at HOWN4; show Hid (World.ownsMap _ _ _ _ _ _ (mapD (preL (two a b) k ++ two a b k) _)); rw [← HL.out]; exact HOWN4, HT4⟩
                case measure => simp [intOf]; omega
          · have hk2 : k = 2 := by omega
            go_wp2_with fail
            have HOWN3 : Hid (wr.ownsMap (H := Unit) Try.prog 9 (plainElem Try.prog 2) M m (mapD (a ++ b) (.map []))) := by
              have h := HOWN
              rw [hk2, pre_two] at h
              exact h
            clear HOWN HOWN0 HT0 HB2 hm hk2
            obtain ⟨wo, rfl⟩ : ∃ wo : World, wo = wr := ⟨_, rfl⟩
            go_loopw [16, 17, 59] (fun s16 s17 i wr => ∃ (j : Nat) (acc : List Rc) (mk : Int), j ≤ a.length ∧ i = .int .i64 j ∧ s17 = .int .i64 mk ∧ Hid (acc.length ≤ j) ∧ Hid (Below w.heap.size w wr) ∧ Hid (M < wr.heap.size) ∧
                Hid (wr.ownsMap (H := Unit) Try.prog 9 (plainElem Try.prog 2) M m (mapD (a ++ b) (.map []))) ∧ Hid (wr.ownsRow (M + 1) 33 7 s16 acc.length (flat acc)) ∧ Hid (keepP (a ++ b) now hq acc mk (a.drop j) = keepP (a ++ b) now hq [] 0 a)) (fun _ _ i _ => a.length - (intOf i).toNat)
            case atStart => exact ⟨0, [], 0, Nat.zero_le _, rfl, rfl, Nat.le_refl _, HB3, Nat.lt_of_succ_lt HT.out.lt, HOWN3, World.ownsRow_nil _ _ _ _, rfl⟩
            case round =>
              obtain ⟨j, acc, mk, hj, rfl, rfl, hal, HB4, HM4, HOWN4, HV, HKP⟩ := hrel
              by_cases hjl : j < a.length
              · obtain ⟨bb, off, rfl, hbb, hcl⟩ := HA.out.at_ hjl
                have RS := Lib.hid (fun (i : Nat) (v : Value) (h : (RcL a[j])[i]? = some v) => (HB4.out.cell (p := (⟨bb, off + j * 7, none⟩ : Addr).add i) (by rw [add_flat]; exact hbb)).trans (hcl i v h))
                have hok := OA.out a[j] (List.getElem_mem hjl)
                have hdrop := List.drop_eq_getElem_cons hjl
                have hmem : a[j] ∈ a ++ b := List.mem_append_left _ (List.getElem_mem hjl)
                have hlo := riseP_gt _ _ HRR.out _ hmem
                have hhi := riseP_lt _ _ HRR.out _ hmem
                generalize hrj : a[j] = r at *
                have HJ := Lib.hid hrj
                have HD := Lib.hid hdrop
                have HKY : Hid (r.key.size ≤ maxLen) := hok.2.2.2.2.2.1
                have HTM : Hid (I64 r.time) := hok.2.2.1
                have HMM := HM4.out
                have HW4 := Lib.hid HB4.out.size
                clear hcl hrj hbb hok hmem hdrop
                obtain ⟨x, hx⟩ : ∃ x, x = (lastOff r.key.data.toList (a ++ b)).getD 0 := ⟨_, rfl⟩
                have HX := Lib.hid hx
                clear hx
                have hb1 : acc.length + 1 ≤ 4194304 := by have := hal.out; omega
                have hb2 : (acc.length + 1) * 72 ≤ 140737488355328 := by have := hal.out; omega
                by_cases hcx : x = r.off
                · by_cases hk2 : r.kind = 2
                  · by_cases hyo : youngB now r.time hq = true
                    · have hst : stays now hq r = true := by unfold stays; rw [hyo, Bool.or_true]
                      go_wp2_with (first
                        | ((with_reducible refine at_op ⟨_, .load 33 (.tmp 61), _, _, _, _⟩ ?_); refine wpList_load_list rfl 33 (.tmp 61) rfl ⟨bb, off + j * 7, none⟩ rfl (RcL r) RS.out _ Try.underlying33 rfl (by kernel_rfl) ?_)
                        | ((with_reducible refine at_op ⟨_, .store 33 (.tmp 19) (.tmp 62), _, _, _, _⟩ ?_); refine wpList_store_blk rfl 33 (.tmp 19) (.tmp 62) rfl wr.heap.size 0 rfl (RcL r) rfl (RcL_one r) 33 rc0 (Blk.new wr 33 rc0) (show 0 + 7 ≤ 7 from Nat.le_refl 7) (by kernel_rfl) ?_; intro w4 hT1 hg1 hs1; have q0 : w4.cell? ⟨wr.heap.size, 0, none⟩ = some (.int .i64 r.kind) := (hT1.cell 0).trans (put_rc rfl r 0 _ rfl); have q1 : w4.cell? ⟨wr.heap.size, 1, none⟩ = some (.int .i64 r.off) := (hT1.cell 1).trans (put_rc rfl r 1 _ rfl); have q2 : w4.cell? ⟨wr.heap.size, 2, none⟩ = some (.int .i64 r.time) := (hT1.cell 2).trans (put_rc rfl r 2 _ rfl); have q5 : w4.cell? ⟨wr.heap.size, 5, none⟩ = some (.string r.key) := (hT1.cell 5).trans (put_rc rfl r 5 _ rfl); have HO4 := Lib.hid ((HOWN4.out.alloc _).kept hg1 (by intro e; injection e with e; omega)); have HV4 := Lib.hid ((HV.out.alloc (.cells rc0 33)).kept hg1 (Or.inr (by intro e; have := (HV.out.lt _ e).2; omega))); have HT1 := Lib.hid hT1; have HG1 := Lib.hid hg1; have HS1 := Lib.hid hs1; clear hT1 hg1 hs1)
                        | ((with_reducible refine at_op ⟨_, .lookup 42 (.tmp 67) (.tmp 69) false, _, _, _, _⟩ ?_); refine wpList_lookup_own_int _ rfl (.tmp 67) (.tmp 69) 42 rfl 9 2 .i64 law9 Try.underlying42 Try.underlying2 (zero2 _) M m _ rfl HO4.out _ _ rfl (keyOf_string_mk Try.underlying9 HKY.out) ?_; intro c hat _; have hcx : c = x := (by have h := (mapD_at r.key.data.toList (a ++ b)).symm.trans hat; injection h with h; injection h with _ h; rw [HX.out, h]); clear hat; subst hcx)
                        | ((with_reducible refine at_op ⟨_, .load 33 (.tmp 19), _, _, _, _⟩ ?_); refine wpList_load_list rfl 33 (.tmp 19) rfl ⟨wr.heap.size, 0, none⟩ rfl [.int .i64 r.kind, .int .i64 r.off, .int .i64 r.time, .int .i64 r.pid, .int .i64 r.seq, .string r.key, .string r.val] (fun j v hv => by rw [add_flat, Nat.zero_add]; exact (HT1.out.cell j).trans (put_rc rfl r j v hv)) _ Try.underlying33 rfl (by kernel_rfl) ?_)
                        | ((with_reducible refine at_op ⟨_, .call { callee := .builtin .append, args := #[.tmp 85, .tmp 87], argTypes := #[26, 26] }, _, _, _, _⟩ ?_); refine wpList_append_own _ rfl (.tmp 85) (.tmp 87) 26 rfl (M + 1) 33 i0 _ 7 72 Try.underlying26 hi0 hz0 hz1 hz2 rfl (by decide) _ acc.length (flat acc) rfl (HV4.out.alloc _) ⟨w4.heap.size, 0, none⟩ 1 1 (RcL r) rfl rfl (by first | exact blk_cells w4 r | (have h := blk_cells w4 r; simp only [hk2] at h; exact h)) (RcL_one r) (Nat.le_of_lt (small_maxLen hb1)) hb2 (by rw [World.size_alloc, HS1.out, World.size_alloc]; omega) ?_; intro v5 w5 hown5 hgrow5 _; have HW5 := Lib.hid hown5; have HG5 := Lib.hid hgrow5; clear hown5 hgrow5)
                        | fail)
                      refine (young_any _ _ _ _ HTM.out.1 HTM.out.2 hq0.1 hq0.2).mono ?_
                      rintro e w6 ⟨rfl, rfl⟩
                      rw [hyo]
                      go_wp2_with (first
                        | ((with_reducible refine at_op ⟨_, .load 33 (.tmp 61), _, _, _, _⟩ ?_); refine wpList_load_list rfl 33 (.tmp 61) rfl ⟨bb, off + j * 7, none⟩ rfl (RcL r) RS.out _ Try.underlying33 rfl (by kernel_rfl) ?_)
                        | ((with_reducible refine at_op ⟨_, .store 33 (.tmp 19) (.tmp 62), _, _, _, _⟩ ?_); refine wpList_store_blk rfl 33 (.tmp 19) (.tmp 62) rfl wr.heap.size 0 rfl (RcL r) rfl (RcL_one r) 33 rc0 (Blk.new wr 33 rc0) (show 0 + 7 ≤ 7 from Nat.le_refl 7) (by kernel_rfl) ?_; intro w4 hT1 hg1 hs1; have q0 : w4.cell? ⟨wr.heap.size, 0, none⟩ = some (.int .i64 r.kind) := (hT1.cell 0).trans (put_rc rfl r 0 _ rfl); have q1 : w4.cell? ⟨wr.heap.size, 1, none⟩ = some (.int .i64 r.off) := (hT1.cell 1).trans (put_rc rfl r 1 _ rfl); have q2 : w4.cell? ⟨wr.heap.size, 2, none⟩ = some (.int .i64 r.time) := (hT1.cell 2).trans (put_rc rfl r 2 _ rfl); have q5 : w4.cell? ⟨wr.heap.size, 5, none⟩ = some (.string r.key) := (hT1.cell 5).trans (put_rc rfl r 5 _ rfl); have HO4 := Lib.hid ((HOWN4.out.alloc _).kept hg1 (by intro e; injection e with e; omega)); have HV4 := Lib.hid ((HV.out.alloc (.cells rc0 33)).kept hg1 (Or.inr (by intro e; have := (HV.out.lt _ e).2; omega))); have HT1 := Lib.hid hT1; have HG1 := Lib.hid hg1; have HS1 := Lib.hid hs1; clear hT1 hg1 hs1)
                        | ((with_reducible refine at_op ⟨_, .lookup 42 (.tmp 67) (.tmp 69) false, _, _, _, _⟩ ?_); refine wpList_lookup_own_int _ rfl (.tmp 67) (.tmp 69) 42 rfl 9 2 .i64 law9 Try.underlying42 Try.underlying2 (zero2 _) M m _ rfl HO4.out _ _ rfl (keyOf_string_mk Try.underlying9 HKY.out) ?_; intro c hat _; have hcx : c = x := (by have h := (mapD_at r.key.data.toList (a ++ b)).symm.trans hat; injection h with h; injection h with _ h; rw [HX.out, h]); clear hat; subst hcx)
                        | ((with_reducible refine at_op ⟨_, .load 33 (.tmp 19), _, _, _, _⟩ ?_); refine wpList_load_list rfl 33 (.tmp 19) rfl ⟨wr.heap.size, 0, none⟩ rfl [.int .i64 r.kind, .int .i64 r.off, .int .i64 r.time, .int .i64 r.pid, .int .i64 r.seq, .string r.key, .string r.val] (fun j v hv => by rw [add_flat, Nat.zero_add]; exact (HT1.out.cell j).trans (put_rc rfl r j v hv)) _ Try.underlying33 rfl (by kernel_rfl) ?_)
                        | ((with_reducible refine at_op ⟨_, .call { callee := .builtin .append, args := #[.tmp 85, .tmp 87], argTypes := #[26, 26] }, _, _, _, _⟩ ?_); refine wpList_append_own _ rfl (.tmp 85) (.tmp 87) 26 rfl (M + 1) 33 i0 _ 7 72 Try.underlying26 hi0 hz0 hz1 hz2 rfl (by decide) _ acc.length (flat acc) rfl (HV4.out.alloc _) ⟨w4.heap.size, 0, none⟩ 1 1 (RcL r) rfl rfl (by first | exact blk_cells w4 r | (have h := blk_cells w4 r; simp only [hk2] at h; exact h)) (RcL_one r) (Nat.le_of_lt (small_maxLen hb1)) hb2 (by rw [World.size_alloc, HS1.out, World.size_alloc]; omega) ?_; intro v5 w5 hown5 hgrow5 _; have HW5 := Lib.hid hown5; have HG5 := Lib.hid hgrow5; clear hown5 hgrow5)
                        | fail)
                      have HBa : Hid (Below w.heap.size w w4) := below_gb (HB4.out.alloc HW4.out _) HG1.out (by rw [World.size_alloc]; exact Nat.le_succ_of_le HW4.out) HW4.out
                      have HBb : Hid (Below w.heap.size w w5) := (HBa.out.alloc HBa.out.size _).grown HG5.out (by rw [World.size_alloc]; exact Nat.le_succ_of_le HBa.out.size) (fun q hq => Nat.le_trans (by omega) (HV4.out.lt q hq).1)
                      have HOb : Hid (w5.ownsMap (H := Unit) Try.prog 9 (plainElem Try.prog 2) M m (mapD (a ++ b) (.map []))) := (HO4.out.alloc _).kept HG5.out (by intro e; have := (HV4.out.lt M e.symm).1; omega)
                      go_roundw
                      case rel => exact ⟨j + 1, acc ++ [r], mk, by omega, by go_num, rfl, Lib.hid (by have := hal.out; rw [List.length_append]; show acc.length + 1 ≤ j + 1; omega), HBb, HOb.out.lt, HOb, by rw [List.length_append, flat_snoc]; exact HW5, by show _ = _; rw [← HKP.out, HD.out, keepP_stay (HX.out.symm.trans hcx) hst]⟩
                      case measure => simp [intOf]; omega
                    · have hyo' : youngB now r.time hq = false := by simpa using hyo
                      have hst : stays now hq r = false := by unfold stays; rw [hyo', decide_eq_false (by simp [hk2])]; rfl
                      go_wp2_with (first
                        | ((with_reducible refine at_op ⟨_, .load 33 (.tmp 61), _, _, _, _⟩ ?_); refine wpList_load_list rfl 33 (.tmp 61) rfl ⟨bb, off + j * 7, none⟩ rfl (RcL r) RS.out _ Try.underlying33 rfl (by kernel_rfl) ?_)
                        | ((with_reducible refine at_op ⟨_, .store 33 (.tmp 19) (.tmp 62), _, _, _, _⟩ ?_); refine wpList_store_blk rfl 33 (.tmp 19) (.tmp 62) rfl wr.heap.size 0 rfl (RcL r) rfl (RcL_one r) 33 rc0 (Blk.new wr 33 rc0) (show 0 + 7 ≤ 7 from Nat.le_refl 7) (by kernel_rfl) ?_; intro w4 hT1 hg1 hs1; have q0 : w4.cell? ⟨wr.heap.size, 0, none⟩ = some (.int .i64 r.kind) := (hT1.cell 0).trans (put_rc rfl r 0 _ rfl); have q1 : w4.cell? ⟨wr.heap.size, 1, none⟩ = some (.int .i64 r.off) := (hT1.cell 1).trans (put_rc rfl r 1 _ rfl); have q2 : w4.cell? ⟨wr.heap.size, 2, none⟩ = some (.int .i64 r.time) := (hT1.cell 2).trans (put_rc rfl r 2 _ rfl); have q5 : w4.cell? ⟨wr.heap.size, 5, none⟩ = some (.string r.key) := (hT1.cell 5).trans (put_rc rfl r 5 _ rfl); have HO4 := Lib.hid ((HOWN4.out.alloc _).kept hg1 (by intro e; injection e with e; omega)); have HV4 := Lib.hid ((HV.out.alloc (.cells rc0 33)).kept hg1 (Or.inr (by intro e; have := (HV.out.lt _ e).2; omega))); have HT1 := Lib.hid hT1; have HG1 := Lib.hid hg1; have HS1 := Lib.hid hs1; clear hT1 hg1 hs1)
                        | ((with_reducible refine at_op ⟨_, .lookup 42 (.tmp 67) (.tmp 69) false, _, _, _, _⟩ ?_); refine wpList_lookup_own_int _ rfl (.tmp 67) (.tmp 69) 42 rfl 9 2 .i64 law9 Try.underlying42 Try.underlying2 (zero2 _) M m _ rfl HO4.out _ _ rfl (keyOf_string_mk Try.underlying9 HKY.out) ?_; intro c hat _; have hcx : c = x := (by have h := (mapD_at r.key.data.toList (a ++ b)).symm.trans hat; injection h with h; injection h with _ h; rw [HX.out, h]); clear hat; subst hcx)
                        | ((with_reducible refine at_op ⟨_, .load 33 (.tmp 19), _, _, _, _⟩ ?_); refine wpList_load_list rfl 33 (.tmp 19) rfl ⟨wr.heap.size, 0, none⟩ rfl [.int .i64 r.kind, .int .i64 r.off, .int .i64 r.time, .int .i64 r.pid, .int .i64 r.seq, .string r.key, .string r.val] (fun j v hv => by rw [add_flat, Nat.zero_add]; exact (HT1.out.cell j).trans (put_rc rfl r j v hv)) _ Try.underlying33 rfl (by kernel_rfl) ?_)
                        | ((with_reducible refine at_op ⟨_, .call { callee := .builtin .append, args := #[.tmp 85, .tmp 87], argTypes := #[26, 26] }, _, _, _, _⟩ ?_); refine wpList_append_own _ rfl (.tmp 85) (.tmp 87) 26 rfl (M + 1) 33 i0 _ 7 72 Try.underlying26 hi0 hz0 hz1 hz2 rfl (by decide) _ acc.length (flat acc) rfl (HV4.out.alloc _) ⟨w4.heap.size, 0, none⟩ 1 1 (RcL r) rfl rfl (by first | exact blk_cells w4 r | (have h := blk_cells w4 r; simp only [hk2] at h; exact h)) (RcL_one r) (Nat.le_of_lt (small_maxLen hb1)) hb2 (by rw [World.size_alloc, HS1.out, World.size_alloc]; omega) ?_; intro v5 w5 hown5 hgrow5 _; have HW5 := Lib.hid hown5; have HG5 := Lib.hid hgrow5; clear hown5 hgrow5)
                        | fail)
                      refine (young_any _ _ _ _ HTM.out.1 HTM.out.2 hq0.1 hq0.2).mono ?_
                      rintro e w6 ⟨rfl, rfl⟩
                      rw [hyo']
                      go_wp2_with (first
                        | ((with_reducible refine at_op ⟨_, .load 33 (.tmp 61), _, _, _, _⟩ ?_); refine wpList_load_list rfl 33 (.tmp 61) rfl ⟨bb, off + j * 7, none⟩ rfl (RcL r) RS.out _ Try.underlying33 rfl (by kernel_rfl) ?_)
                        | ((with_reducible refine at_op ⟨_, .store 33 (.tmp 19) (.tmp 62), _, _, _, _⟩ ?_); refine wpList_store_blk rfl 33 (.tmp 19) (.tmp 62) rfl wr.heap.size 0 rfl (RcL r) rfl (RcL_one r) 33 rc0 (Blk.new wr 33 rc0) (show 0 + 7 ≤ 7 from Nat.le_refl 7) (by kernel_rfl) ?_; intro w4 hT1 hg1 hs1; have q0 : w4.cell? ⟨wr.heap.size, 0, none⟩ = some (.int .i64 r.kind) := (hT1.cell 0).trans (put_rc rfl r 0 _ rfl); have q1 : w4.cell? ⟨wr.heap.size, 1, none⟩ = some (.int .i64 r.off) := (hT1.cell 1).trans (put_rc rfl r 1 _ rfl); have q2 : w4.cell? ⟨wr.heap.size, 2, none⟩ = some (.int .i64 r.time) := (hT1.cell 2).trans (put_rc rfl r 2 _ rfl); have q5 : w4.cell? ⟨wr.heap.size, 5, none⟩ = some (.string r.key) := (hT1.cell 5).trans (put_rc rfl r 5 _ rfl); have HO4 := Lib.hid ((HOWN4.out.alloc _).kept hg1 (by intro e; injection e with e; omega)); have HV4 := Lib.hid ((HV.out.alloc (.cells rc0 33)).kept hg1 (Or.inr (by intro e; have := (HV.out.lt _ e).2; omega))); have HT1 := Lib.hid hT1; have HG1 := Lib.hid hg1; have HS1 := Lib.hid hs1; clear hT1 hg1 hs1)
                        | ((with_reducible refine at_op ⟨_, .lookup 42 (.tmp 67) (.tmp 69) false, _, _, _, _⟩ ?_); refine wpList_lookup_own_int _ rfl (.tmp 67) (.tmp 69) 42 rfl 9 2 .i64 law9 Try.underlying42 Try.underlying2 (zero2 _) M m _ rfl HO4.out _ _ rfl (keyOf_string_mk Try.underlying9 HKY.out) ?_; intro c hat _; have hcx : c = x := (by have h := (mapD_at r.key.data.toList (a ++ b)).symm.trans hat; injection h with h; injection h with _ h; rw [HX.out, h]); clear hat; subst hcx)
                        | ((with_reducible refine at_op ⟨_, .load 33 (.tmp 19), _, _, _, _⟩ ?_); refine wpList_load_list rfl 33 (.tmp 19) rfl ⟨wr.heap.size, 0, none⟩ rfl [.int .i64 r.kind, .int .i64 r.off, .int .i64 r.time, .int .i64 r.pid, .int .i64 r.seq, .string r.key, .string r.val] (fun j v hv => by rw [add_flat, Nat.zero_add]; exact (HT1.out.cell j).trans (put_rc rfl r j v hv)) _ Try.underlying33 rfl (by kernel_rfl) ?_)
                        | ((with_reducible refine at_op ⟨_, .call { callee := .builtin .append, args := #[.tmp 85, .tmp 87], argTypes := #[26, 26] }, _, _, _, _⟩ ?_); refine wpList_append_own _ rfl (.tmp 85) (.tmp 87) 26 rfl (M + 1) 33 i0 _ 7 72 Try.underlying26 hi0 hz0 hz1 hz2 rfl (by decide) _ acc.length (flat acc) rfl (HV4.out.alloc _) ⟨w4.heap.size, 0, none⟩ 1 1 (RcL r) rfl rfl (by first | exact blk_cells w4 r | (have h := blk_cells w4 r; simp only [hk2] at h; exact h)) (RcL_one r) (Nat.le_of_lt (small_maxLen hb1)) hb2 (by rw [World.size_alloc, HS1.out, World.size_alloc]; omega) ?_; intro v5 w5 hown5 hgrow5 _; have HW5 := Lib.hid hown5; have HG5 := Lib.hid hgrow5; clear hown5 hgrow5)
                        | fail)
                      have HBa : Hid (Below w.heap.size w w4) := below_gb (HB4.out.alloc HW4.out _) HG1.out (by rw [World.size_alloc]; exact Nat.le_succ_of_le HW4.out) HW4.out
                      go_roundw
                      case rel => exact ⟨j + 1, acc, r.off + 1, by omega, by go_num, by go_num, Lib.hid (by have := hal.out; omega), HBa, HO4.out.lt, HO4, HV4, by show _ = _; rw [← HKP.out, HD.out, keepP_mark (HX.out.symm.trans hcx) hst]⟩
                      case measure => simp [intOf]; omega
                  · have hst : stays now hq r = true := by unfold stays; rw [decide_eq_true (by simpa using hk2)]; rfl
                    go_wp2_with (first
                      | ((with_reducible refine at_op ⟨_, .load 33 (.tmp 61), _, _, _, _⟩ ?_); refine wpList_load_list rfl 33 (.tmp 61) rfl ⟨bb, off + j * 7, none⟩ rfl (RcL r) RS.out _ Try.underlying33 rfl (by kernel_rfl) ?_)
                      | ((with_reducible refine at_op ⟨_, .store 33 (.tmp 19) (.tmp 62), _, _, _, _⟩ ?_); refine wpList_store_blk rfl 33 (.tmp 19) (.tmp 62) rfl wr.heap.size 0 rfl (RcL r) rfl (RcL_one r) 33 rc0 (Blk.new wr 33 rc0) (show 0 + 7 ≤ 7 from Nat.le_refl 7) (by kernel_rfl) ?_; intro w4 hT1 hg1 hs1; have q0 : w4.cell? ⟨wr.heap.size, 0, none⟩ = some (.int .i64 r.kind) := (hT1.cell 0).trans (put_rc rfl r 0 _ rfl); have q1 : w4.cell? ⟨wr.heap.size, 1, none⟩ = some (.int .i64 r.off) := (hT1.cell 1).trans (put_rc rfl r 1 _ rfl); have q2 : w4.cell? ⟨wr.heap.size, 2, none⟩ = some (.int .i64 r.time) := (hT1.cell 2).trans (put_rc rfl r 2 _ rfl); have q5 : w4.cell? ⟨wr.heap.size, 5, none⟩ = some (.string r.key) := (hT1.cell 5).trans (put_rc rfl r 5 _ rfl); have HO4 := Lib.hid ((HOWN4.out.alloc _).kept hg1 (by intro e; injection e with e; omega)); have HV4 := Lib.hid ((HV.out.alloc (.cells rc0 33)).kept hg1 (Or.inr (by intro e; have := (HV.out.lt _ e).2; omega))); have HT1 := Lib.hid hT1; have HG1 := Lib.hid hg1; have HS1 := Lib.hid hs1; clear hT1 hg1 hs1)
                      | ((with_reducible refine at_op ⟨_, .lookup 42 (.tmp 67) (.tmp 69) false, _, _, _, _⟩ ?_); refine wpList_lookup_own_int _ rfl (.tmp 67) (.tmp 69) 42 rfl 9 2 .i64 law9 Try.underlying42 Try.underlying2 (zero2 _) M m _ rfl HO4.out _ _ rfl (keyOf_string_mk Try.underlying9 HKY.out) ?_; intro c hat _; have hcx : c = x := (by have h := (mapD_at r.key.data.toList (a ++ b)).symm.trans hat; injection h with h; injection h with _ h; rw [HX.out, h]); clear hat; subst hcx)
                      | ((with_reducible refine at_op ⟨_, .load 33 (.tmp 19), _, _, _, _⟩ ?_); refine wpList_load_list rfl 33 (.tmp 19) rfl ⟨wr.heap.size, 0, none⟩ rfl [.int .i64 r.kind, .int .i64 r.off, .int .i64 r.time, .int .i64 r.pid, .int .i64 r.seq, .string r.key, .string r.val] (fun j v hv => by rw [add_flat, Nat.zero_add]; exact (HT1.out.cell j).trans (put_rc rfl r j v hv)) _ Try.underlying33 rfl (by kernel_rfl) ?_)
                      | ((with_reducible refine at_op ⟨_, .call { callee := .builtin .append, args := #[.tmp 85, .tmp 87], argTypes := #[26, 26] }, _, _, _, _⟩ ?_); refine wpList_append_own _ rfl (.tmp 85) (.tmp 87) 26 rfl (M + 1) 33 i0 _ 7 72 Try.underlying26 hi0 hz0 hz1 hz2 rfl (by decide) _ acc.length (flat acc) rfl (HV4.out.alloc _) ⟨w4.heap.size, 0, none⟩ 1 1 (RcL r) rfl rfl (by first | exact blk_cells w4 r | (have h := blk_cells w4 r; simp only [hk2] at h; exact h)) (RcL_one r) (Nat.le_of_lt (small_maxLen hb1)) hb2 (by rw [World.size_alloc, HS1.out, World.size_alloc]; omega) ?_; intro v5 w5 hown5 hgrow5 _; have HW5 := Lib.hid hown5; have HG5 := Lib.hid hgrow5; clear hown5 hgrow5)
                      | fail)
                    have HBa : Hid (Below w.heap.size w w4) := below_gb (HB4.out.alloc HW4.out _) HG1.out (by rw [World.size_alloc]; exact Nat.le_succ_of_le HW4.out) HW4.out
                    have HBb : Hid (Below w.heap.size w w5) := (HBa.out.alloc HBa.out.size _).grown HG5.out (by rw [World.size_alloc]; exact Nat.le_succ_of_le HBa.out.size) (fun q hq => Nat.le_trans (by omega) (HV4.out.lt q hq).1)
                    have HOb : Hid (w5.ownsMap (H := Unit) Try.prog 9 (plainElem Try.prog 2) M m (mapD (a ++ b) (.map []))) := (HO4.out.alloc _).kept HG5.out (by intro e; have := (HV4.out.lt M e.symm).1; omega)
                    go_roundw
                    case rel => exact ⟨j + 1, acc ++ [r], mk, by omega, by go_num, rfl, Lib.hid (by have := hal.out; rw [List.length_append]; show acc.length + 1 ≤ j + 1; omega), HBb, HOb.out.lt, HOb, by rw [List.length_append, flat_snoc]; exact HW5, by show _ = _; rw [← HKP.out, HD.out, keepP_stay (HX.out.symm.trans hcx) hst]⟩
                    case measure => simp [intOf]; omega
                · skip
                  go_wp2_with (first
                    | ((with_reducible refine at_op ⟨_, .load 33 (.tmp 61), _, _, _, _⟩ ?_); refine wpList_load_list rfl 33 (.tmp 61) rfl ⟨bb, off + j * 7, none⟩ rfl (RcL r) RS.out _ Try.underlying33 rfl (by kernel_rfl) ?_)
                    | ((with_reducible refine at_op ⟨_, .store 33 (.tmp 19) (.tmp 62), _, _, _, _⟩ ?_); refine wpList_store_blk rfl 33 (.tmp 19) (.tmp 62) rfl wr.heap.size 0 rfl (RcL r) rfl (RcL_one r) 33 rc0 (Blk.new wr 33 rc0) (show 0 + 7 ≤ 7 from Nat.le_refl 7) (by kernel_rfl) ?_; intro w4 hT1 hg1 hs1; have q0 : w4.cell? ⟨wr.heap.size, 0, none⟩ = some (.int .i64 r.kind) := (hT1.cell 0).trans (put_rc rfl r 0 _ rfl); have q1 : w4.cell? ⟨wr.heap.size, 1, none⟩ = some (.int .i64 r.off) := (hT1.cell 1).trans (put_rc rfl r 1 _ rfl); have q2 : w4.cell? ⟨wr.heap.size, 2, none⟩ = some (.int .i64 r.time) := (hT1.cell 2).trans (put_rc rfl r 2 _ rfl); have q5 : w4.cell? ⟨wr.heap.size, 5, none⟩ = some (.string r.key) := (hT1.cell 5).trans (put_rc rfl r 5 _ rfl); have HO4 := Lib.hid ((HOWN4.out.alloc _).kept hg1 (by intro e; injection e with e; omega)); have HV4 := Lib.hid ((HV.out.alloc (.cells rc0 33)).kept hg1 (Or.inr (by intro e; have := (HV.out.lt _ e).2; omega))); have HT1 := Lib.hid hT1; have HG1 := Lib.hid hg1; have HS1 := Lib.hid hs1; clear hT1 hg1 hs1)
                    | ((with_reducible refine at_op ⟨_, .lookup 42 (.tmp 67) (.tmp 69) false, _, _, _, _⟩ ?_); refine wpList_lookup_own_int _ rfl (.tmp 67) (.tmp 69) 42 rfl 9 2 .i64 law9 Try.underlying42 Try.underlying2 (zero2 _) M m _ rfl HO4.out _ _ rfl (keyOf_string_mk Try.underlying9 HKY.out) ?_; intro c hat _; have hcx : c = x := (by have h := (mapD_at r.key.data.toList (a ++ b)).symm.trans hat; injection h with h; injection h with _ h; rw [HX.out, h]); clear hat; subst hcx)
                    | ((with_reducible refine at_op ⟨_, .load 33 (.tmp 19), _, _, _, _⟩ ?_); refine wpList_load_list rfl 33 (.tmp 19) rfl ⟨wr.heap.size, 0, none⟩ rfl [.int .i64 r.kind, .int .i64 r.off, .int .i64 r.time, .int .i64 r.pid, .int .i64 r.seq, .string r.key, .string r.val] (fun j v hv => by rw [add_flat, Nat.zero_add]; exact (HT1.out.cell j).trans (put_rc rfl r j v hv)) _ Try.underlying33 rfl (by kernel_rfl) ?_)
                    | ((with_reducible refine at_op ⟨_, .call { callee := .builtin .append, args := #[.tmp 85, .tmp 87], argTypes := #[26, 26] }, _, _, _, _⟩ ?_); refine wpList_append_own _ rfl (.tmp 85) (.tmp 87) 26 rfl (M + 1) 33 i0 _ 7 72 Try.underlying26 hi0 hz0 hz1 hz2 rfl (by decide) _ acc.length (flat acc) rfl (HV4.out.alloc _) ⟨w4.heap.size, 0, none⟩ 1 1 (RcL r) rfl rfl (by first | exact blk_cells w4 r | (have h := blk_cells w4 r; simp only [hk2] at h; exact h)) (RcL_one r) (Nat.le_of_lt (small_maxLen hb1)) hb2 (by rw [World.size_alloc, HS1.out, World.size_alloc]; omega) ?_; intro v5 w5 hown5 hgrow5 _; have HW5 := Lib.hid hown5; have HG5 := Lib.hid hgrow5; clear hown5 hgrow5)
                    | fail)
                  have HBa : Hid (Below w.heap.size w w4) := below_gb (HB4.out.alloc HW4.out _) HG1.out (by rw [World.size_alloc]; exact Nat.le_succ_of_le HW4.out) HW4.out
                  go_roundw
                  case rel => exact ⟨j + 1, acc, mk, by omega, by go_num, rfl, Lib.hid (by have := hal.out; omega), HBa, HO4.out.lt, HO4, HV4, by show _ = _; rw [← HKP.out, HD.out, keepP_skip (fun h => hcx (HX.out.trans h))]⟩
                  case measure => simp [intOf]; omega
              · obtain rfl : j = a.length := by omega
                go_wp2_with fail
                go_ret3
                have hk := HKP.out
                rw [List.drop_length] at hk
                have ho := HO.out
                rw [← HQ.out, ← hk] at ho
                obtain ⟨rfl, rfl, rfl⟩ : out = acc ∧ mark = mk ∧ err = 0 := by injection ho with h1 h2; injection h2 with h2 h3; exact ⟨h1.symm, h2.symm, h3.symm⟩
                exact ⟨_, rfl, owns_base HV.out (by omega), HB4.out⟩
end Go.Proofs.Ytjlfpcgopenkmaa.cp
