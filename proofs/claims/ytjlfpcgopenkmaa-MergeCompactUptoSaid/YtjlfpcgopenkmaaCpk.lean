/-
  MergeCompact walked: the program's Compact against the document's, twice; the first answer written over; what was handed in is as it was.
  Conditions: the rows lie below the heap's end; at most 1048576 records each.
-/
import Derived.Test.YtjlfpcgopenkmaaCpj
import Derived.Maps.AppendAt
namespace Go.Proofs.Ytjlfpcgopenkmaa.cp
open Go.RowKit

def r78 : Rc := ⟨78, 0, 0, 0, 0, ByteArray.empty, ByteArray.empty⟩
def r79 : Rc := ⟨79, 0, 0, 0, 0, ByteArray.empty, ByteArray.empty⟩
/-- an owned slice that has an element has a block -/
theorem owns_block {w : World} {base n c : Nat} {A : Option Addr} {xs : List Value} (h : w.ownsRow base 33 7 (.slice A n c) n xs) (hn : 0 < n) :
    ∃ g cur, A = some ⟨g, 0, none⟩ ∧ base ≤ g ∧ Blk w g 33 cur ∧ cur.size = c * 7 ∧ n ≤ c ∧ c ≤ maxLen := by
  rcases h.2 with ⟨_, h0⟩ | ⟨g, cap, cur, e, hb, hg, h1, h2, h3, _⟩
  · omega
  · injection e with e1 e2 e3
    subst e1 e3
    exact ⟨g, cur, rfl, hb, hg, h3, h1, h2⟩
/-- one place of it written over -/
theorem owns_over {w : World} {base n c g : Nat} {cur : Array Value} (hb : base ≤ g) (hg : Blk w g 33 cur) (hs : cur.size = c * 7) (h1 : n ≤ c) (h2 : c ≤ maxLen) :
    w.ownsRow base 33 7 (.slice (some ⟨g, 0, none⟩) n c) n (cur.toList.take (n * 7)) :=
  ⟨by rw [List.length_take, Array.length_toList, hs]; omega, .inr ⟨g, c, cur, rfl, hb, hg, h1, h2, hs, rfl⟩⟩

set_option maxHeartbeats 6000000 in
set_option maxRecDepth 100000 in
theorem law_any (a b : List Rc) (A B : Option Addr) (c d : Nat) (now hor : Int) (w : World) (ha : Recs w w.heap.size A a) (hb : Recs w w.heap.size B b) (oka : ∀ r ∈ a, r.ok) (okb : ∀ r ∈ b, r.ok)
    (na : a.length ≤ 1048576) (nb : b.length ≤ 1048576) (n0 : -9223372036854775808 ≤ now) (n1 : now ≤ 9223372036854775807) (h0 : -9223372036854775808 ≤ hor) (h1 : hor ≤ 9223372036854775807) :
    Calls Try.prog 5 #[.slice A a.length c, .slice B b.length d, .int .i64 now, .int .i64 hor] w fun e w' => e = .returned (.bool true) ∧ Below w.heap.size w w' := by
  obtain ⟨i0, hi0, hz0, hz1, hz2⟩ := info_parts zero33
  have N0 : Hid (I64 now) := ⟨n0, n1⟩
  have H0 : Hid (I64 hor) := ⟨h0, h1⟩
  have HA := Lib.hid ha
  have HB := Lib.hid hb
  have OA := Lib.hid oka
  have OB := Lib.hid okb
  clear n0 n1 h0 h1 ha hb oka okb
  obtain ⟨⟨o, m, er⟩, hc⟩ : ∃ x, compP a b now hor = x := ⟨_, rfl⟩
  have lo : o.length ≤ 1048576 := Nat.le_trans (compP_len hc) na
  have HC := Lib.hid hc
  clear hc
  go_enter Try.func5, Try.ntmps5
  go_wp2_with fail
  refine (rcompact_any a b A B c d now hor w HA.out HB.out OA.out na nb N0.out.1 N0.out.2 H0.out.1 H0.out.2 o m er ((comp_same _ _ _ _).symm.trans HC.out)).mono ?_
  rintro e w1 ⟨v1, rfl, hv1, hb1⟩
  obtain ⟨V, cV, rfl, hV⟩ := owns_slice hv1
  have HB1 := Lib.hid hb1
  have HV1 := Lib.hid hV
  clear hv1 hb1 hV
  go_wp2_with fail
  refine (spare_any a A c w1 ((HA.out.below HB1.out).mono HB1.out.size) na).mono ?_
  rintro e w3 ⟨rfl, hb3, cs, hk3, hr3⟩
  obtain ⟨g, hg⟩ : ∃ g, g = w1.heap.size := ⟨_, rfl⟩
  rw [← hg] at hb3 hk3 HV1 ⊢
  have HB3 := Lib.hid hb3
  have HK3 := Lib.hid hk3
  have HR3 := Lib.hid hr3
  have hg3 := hk3.lt
  have HBw : Hid (w.heap.size ≤ g) := Lib.hid (by rw [hg]; exact HB1.out.size)
  have HBg : Hid (Below w.heap.size w w3) := HB1.out.trans (HB3.out.mono HBw.out)
  have HV3 : Hid (Recs w3 g V o) := HV1.out.below HB3.out
  clear hb3 hk3 hr3 HV1 HB1 hg HB3
  go_wp2_with fail
  refine (spare_any b B d w3 ((HB.out.below HBg.out).mono HBg.out.size) nb).mono ?_
  rintro e w4 ⟨rfl, hb4, ds, hk4, hr4⟩
  have HR4 := Lib.hid hr4
  have hg4 := hk4.lt
  obtain ⟨h, hh⟩ : ∃ h, h = w3.heap.size := ⟨_, rfl⟩
  rw [← hh] at hb4 hk4 hg4 hg3 ⊢
  have HK4 := Lib.hid hk4
  have HBh : Hid (Below w.heap.size w w4) := HBg.out.trans (hb4.mono (by have := HBw.out; omega))
  have HV4 : Hid (Recs w4 g V o) := HV3.out.below (hb4.mono (Nat.le_of_lt hg3))
  have HK4a : Hid (Blk w4 g 33 cs) := HK3.out.below hb4 hg3
  clear hb4 hk4 hr4 hh HV3 HK3 HBg
  have hsl : a.length ≤ a.length + 1 := Nat.le_succ _
  have htl : b.length ≤ b.length + 1 := Nat.le_succ _
  have HRg : Hid (Recs w4 w4.heap.size (some ⟨g, 0, none⟩) a) := Rows.recs HK4a.out (by have := HR3.out.take a.length; rw [List.take_left' rfl] at this; exact this) (by omega)
  have HRh : Hid (Recs w4 w4.heap.size (some ⟨h, 0, none⟩) b) := Rows.recs HK4.out (by have := HR4.out.take b.length; rw [List.take_left' rfl] at this; exact this) hg4
  go_upto_region 4 with fail
  go_cut [14, 15, 16] (fun s13 s14 s15 wx => ∃ (X : Option Addr) (cX : Nat), s13 = .slice X o.length cX ∧ s14 = .int .i64 m ∧ s15 = .int .i64 er ∧ Hid (Below w4.heap.size w4 wx) ∧ Hid (wx.ownsRow w4.heap.size 33 7 (.slice X o.length cX) o.length (flat o)))
  case first =>
    go_region_with (go_at_call 13; refine (compact_any a b _ _ _ _ now hor _ ?_ ?_ OA.out OB.out na nb N0.out.1 N0.out.2 H0.out.1 H0.out.2 o m er HC.out).mono ?_; exact HRg.out; exact HRh.out; rintro e w5 ⟨v5, rfl, hv5, hb5⟩; obtain ⟨X, cX, rfl, _⟩ := owns_slice hv5)
    all_goals
      have HBq : Hid (Below w4.heap.size w4 w5) := ⟨hb5.os, hb5.tape, hb5.output, hb5.size, hb5.block⟩
      have HVq : Hid (w5.ownsRow w4.heap.size 33 7 (.slice X o.length cX) o.length (flat o)) := hv5
      clear hb5 hv5
      simp only [Exit.then]
      go_step
      refine Met.intro ?_
      go_step
      (repeat apply Exists.intro)
      exact ⟨⟨X, cX, rfl, rfl, rfl, HBq, HVq⟩, rfl⟩
  case rest =>
    obtain ⟨X, cX, rfl, rfl, rfl, HB5, HX5⟩ := hcut
    obtain ⟨w5, rfl⟩ : ∃ x : World, x = wc := ⟨_, rfl⟩
    have HRg5 : Hid (Recs w5 w5.heap.size (some ⟨g, 0, none⟩) a) := (HRg.out.below HB5.out).mono HB5.out.size
    have HRh5 : Hid (Recs w5 w5.heap.size (some ⟨h, 0, none⟩) b) := (HRh.out.below HB5.out).mono HB5.out.size
    clear HRg HRh
    go_upto_region 5 with fail
    go_cut [17, 18, 19] (fun s13 s14 s15 wx => ∃ (Y : Option Addr) (cY : Nat), s13 = .slice Y o.length cY ∧ s14 = .int .i64 m ∧ s15 = .int .i64 er ∧ Hid (Below w5.heap.size w5 wx) ∧ Hid (wx.ownsRow w5.heap.size 33 7 (.slice Y o.length cY) o.length (flat o)))
    case first =>
      go_region_with (go_at_call 13; refine (compact_any a b _ _ _ _ now hor _ ?_ ?_ OA.out OB.out na nb N0.out.1 N0.out.2 H0.out.1 H0.out.2 o m er HC.out).mono ?_; exact HRg5.out; exact HRh5.out; rintro e w6 ⟨v5, rfl, hv5, hb5⟩; obtain ⟨Y, cY, rfl, _⟩ := owns_slice hv5)
      all_goals
        have HBq : Hid (Below w5.heap.size w5 w6) := ⟨hb5.os, hb5.tape, hb5.output, hb5.size, hb5.block⟩
        have HVq : Hid (w6.ownsRow w5.heap.size 33 7 (.slice Y o.length cY) o.length (flat o)) := hv5
        clear hb5 hv5
        simp only [Exit.then]
        go_step
        refine Met.intro ?_
        go_step
        (repeat apply Exists.intro)
        exact ⟨⟨Y, cY, rfl, rfl, rfl, HBq, HVq⟩, rfl⟩
    case rest =>
      obtain ⟨Y, cY, rfl, rfl, rfl, HB6, HY6⟩ := hcut
      obtain ⟨w6, rfl⟩ : ∃ x : World, x = wc := ⟨_, rfl⟩
      have HXF : Hid (∀ q, (Value.slice X o.length cX).ownBlock = some q → q < w5.heap.size) := Lib.hid (fun q hq => (HX5.out.lt q hq).2)
      have HX6 : Hid (w6.ownsRow w4.heap.size 33 7 (.slice X o.length cX) o.length (flat o)) := HX5.out.kept (grown_of_below HB6.out) (by cases hv : Value.ownBlock _ <;> simp)
      have HB6b : Hid (Below w4.heap.size w4 w6) := HB5.out.trans (HB6.out.mono HB5.out.size)
      have HV6 : Hid (Recs w6 w4.heap.size V o) := (HV4.out.below (HB6b.out.mono (by omega))).mono (by omega)
      clear HX5 HRg5 HRh5 HB5 HB6
      go_wp2_with fail
      refine (same_any o X V cX cV w6 _ _ (Recs.of_owns HX6.out).1 HV6.out lo).mono ?_
      rintro e w7 ⟨rfl, hb7⟩
      have HB7 : Hid (Below w4.heap.size w4 w7) := HB6b.out.trans (hb7 _)
      have HX7 : Hid (w7.ownsRow w4.heap.size 33 7 (.slice X o.length cX) o.length (flat o)) := HX6.out.kept (grown_of_below (hb7 _)) (by cases hv : Value.ownBlock _ <;> simp)
      have HY7 : Hid (w7.ownsRow w5.heap.size 33 7 (.slice Y o.length cY) o.length (flat o)) := HY6.out.kept (grown_of_below (hb7 _)) (by cases hv : Value.ownBlock _ <;> simp)
      have HV7 : Hid (Recs w7 w4.heap.size V o) := HV6.out.below (hb7 _)
      clear hb7 HB6b HX6 HY6
      go_wp2_with fail
      go_loopw [20] (fun i wr => ∃ (k : Nat) (xs : List Value), k ≤ o.length ∧ i = .int .i64 k ∧ Hid (wr.ownsRow w4.heap.size 33 7 (.slice X o.length cX) o.length xs) ∧ Hid (wr.ownsRow w5.heap.size 33 7 (.slice Y o.length cY) o.length (flat o)) ∧ Hid (Below w4.heap.size w4 wr)) (fun i _ => o.length - (intOf i).toNat)
      case atStart => exact ⟨0, _, Nat.zero_le _, rfl, HX7, HY7, HB7⟩
      case round =>
        obtain ⟨k, xs, hk, rfl, HX, HY, HBr⟩ := hrel
        by_cases hlt : k < o.length
        · obtain ⟨g1, cur, rfl, hg1b, hBk, hsz, hnc, hcm⟩ := owns_block HX.out (by omega)
          have HBK := Lib.hid hBk
          have X1 : k * 7 + 7 ≤ cur.size := by rw [hsz]; omega
          have hgl := hBk.lt
          have HSZ := Lib.hid hsz
          have HCM := Lib.hid hcm
          have hkc : k < cX := by omega
          clear hBk hsz hcm
          go_wp2_with (first
            | ((with_reducible refine at_op ⟨_, .store 33 (.tmp 98) (.tmp 97), _, _, _, _⟩ ?_); refine wpList_store_blk rfl 33 (.tmp 98) (.tmp 97) rfl g1 (k * 7) rfl (RcL r78) rfl (RcL_one r78) 33 cur HBK.out X1 (by kernel_rfl) ?_; clear X1; intro wn hT1 hg1 hs1; have HT1 := Lib.hid hT1; have HG1 := Lib.hid hg1; clear hT1 hg1 hs1)
            | fail)
          go_roundw
          case rel => exact ⟨k + 1, _, by omega, by go_num, Lib.hid (owns_over hg1b HT1.out (by rw [putFrom_size]; exact HSZ.out) hnc HCM.out), HY.out.kept HG1.out (Or.inr (by intro e; have h1 := (HY.out.lt g1 e).1; have h2 := HXF.out g1 rfl; omega)), below_gb HBr.out HG1.out HBr.out.size hg1b⟩
          case measure => simp [intOf]; omega
        · have HXa := HX
          have HYa := HY
          have HBa := HBr
          clear HX HY HBr HX7 HY7 HB7
          go_wp2_with fail
          obtain ⟨wo, rfl⟩ : ∃ wo : World, wo = wr := ⟨_, rfl⟩
          have HXY : Hid ((Value.slice Y o.length cY).ownBlock = none ∨ (Value.slice Y o.length cY).ownBlock ≠ (Value.slice X o.length cX).ownBlock) := Lib.hid (by
            cases hy : (Value.slice Y o.length cY).ownBlock with
            | none => exact .inl rfl
            | some q =>
              right
              intro e
              have h1 := (HYa.out.lt q hy).1
              have h2 := HXF.out q e.symm
              omega)
          go_loopw [14, 21] (fun s i wr => ∃ (k : Nat) (xs : List Value), k ≤ 64 ∧ i = .int .i64 k ∧ Hid (wr.ownsRow w4.heap.size 33 7 s (o.length + k) xs) ∧ Hid (wr.ownsRow w5.heap.size 33 7 (.slice Y o.length cY) o.length (flat o)) ∧ Hid (Below w4.heap.size w4 wr) ∧ Hid ((Value.slice Y o.length cY).ownBlock = none ∨ (Value.slice Y o.length cY).ownBlock ≠ s.ownBlock)) (fun _ i _ => 64 - (intOf i).toNat)
          case atStart => exact ⟨0, _, by omega, rfl, HXa, HYa, HBa, HXY⟩
          case round =>
            obtain ⟨q, xs, hq, rfl, HX, HY, HBr, HN⟩ := hrel
            by_cases hlt2 : q < 64
            · have hb1 : o.length + q + 1 ≤ 4194304 := by omega
              have hb2 : (o.length + q + 1) * 72 ≤ 140737488355328 := by omega
              go_wp2_with (first
                | ((with_reducible refine at_op ⟨_, .call { callee := .builtin .append, args := #[.tmp 103, .tmp 105], argTypes := #[26, 26] }, _, _, _, _⟩ ?_); refine wpList_append_own_at _ rfl (.tmp 103) (.tmp 105) 26 rfl w4.heap.size 33 i0 _ 7 72 Try.underlying26 hi0 hz0 hz1 hz2 rfl (by decide) _ (o.length + q) xs rfl (HX.out.alloc _) ⟨wr.heap.size, 0, none⟩ 1 1 (RcL r79) rfl rfl (blk_cells wr r79) (RcL_one r79) (Nat.le_of_lt (small_maxLen hb1)) hb2 (by rw [World.size_alloc]; exact Nat.le_succ_of_le HBr.out.size) ?_; intro v5 wn hown5 hgrow5 _ hat5; have HW5 := Lib.hid hown5; have HG5 := Lib.hid hgrow5; have HAT5 := Lib.hid hat5; clear hown5 hgrow5 hat5)
                | fail)
              go_roundw
              case rel => exact ⟨q + 1, _, by omega, by go_num, by rw [← Nat.add_assoc]; exact HW5, (HY.out.alloc _).kept HG5.out HN.out, (HBr.out.alloc HBr.out.size _).grown HG5.out (by rw [World.size_alloc]; exact Nat.le_succ_of_le HBr.out.size) (fun q hq => (HX.out.lt q hq).1), Lib.hid (by
                rcases HAT5.out with e | e
                · rw [e]; exact HN.out
                · rw [e, World.size_alloc]
                  cases hy : (Value.slice Y o.length cY).ownBlock with
                  | none => exact .inl rfl
                  | some q =>
                    right
                    intro e
                    have h1 := (HY.out.lt q hy).2
                    injection e with e
                    omega)⟩
              case measure => simp [intOf]; omega
            · have HB9 : Hid (Below w.heap.size w wr) := HBh.out.trans (HBr.out.mono HBh.out.size)
              have HV9 : Hid (Recs wr g V o) := HV4.out.below (HBr.out.mono (by omega))
              have HK9a : Hid (Blk wr g 33 cs) := HK4a.out.below HBr.out (by omega)
              have HK9 : Hid (Blk wr h 33 ds) := HK4.out.below HBr.out hg4
              clear HBr HN HX HXa HYa HBa HXY HV7 HV6 HK4a HK4 HBh
              go_wp2_with fail
              refine (same_any o Y V cY cV wr _ _ (Recs.of_owns HY.out).1 HV9.out lo).mono ?_
              rintro e w11 ⟨rfl, hb11⟩
              have HB11 := Lib.hid hb11
              clear hb11
              go_wp2_with fail
              refine (kept_any a A c w11 _ g ((HA.out.below HB9.out).below (HB11.out _)) na cs (HK9a.out.below (HB11.out _) (Nat.lt_succ_self _)) HR3.out).mono ?_
              rintro e w12 ⟨rfl, hb12⟩
              have HB12 := Lib.hid hb12
              clear hb12
              go_wp2_with fail
              refine (kept_any b B d w12 _ h (((HB.out.below HB9.out).below (HB11.out _)).below (HB12.out _)) nb ds ((HK9.out.below (HB11.out _) (Nat.lt_succ_self _)).below (HB12.out _) (Nat.lt_succ_self _)) HR4.out).mono ?_
              rintro e w13 ⟨rfl, hb13⟩
              have HBx : Hid (Below w.heap.size w w13) := ((HB9.out.trans (HB11.out _)).trans (HB12.out _)).trans (hb13 _)
              clear hb13
              go_wp2_with fail
              refine (placed_any a b A B c d now hor w13 ((HA.out.below HBx.out).mono HBx.out.size) ((HB.out.below HBx.out).mono HBx.out.size) OA.out OB.out na nb N0.out.1 N0.out.2 H0.out.1 H0.out.2).mono ?_
              rintro e w14 ⟨rfl, hb14⟩
              have HBy : Hid (Below w.heap.size w w14) := HBx.out.trans (hb14.mono HBx.out.size)
              clear hb14
              go_wp2_with fail
              go_ret
              exact ⟨rfl, HBy.out⟩
end Go.Proofs.Ytjlfpcgopenkmaa.cp
