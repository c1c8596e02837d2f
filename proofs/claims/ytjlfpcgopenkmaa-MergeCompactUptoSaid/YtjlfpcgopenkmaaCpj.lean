/-
  compactPlaced walked: Compact asked of other lists, then of the same memory with the given records in it.
  Conditions: the rows lie below the heap's end; at most 1048576 records each.
-/
import Derived.Test.YtjlfpcgopenkmaaCpg
import Derived.Test.YtjlfpcgopenkmaaCpi
import Derived.Deep.RegionWith
import Derived.Deep.DeepCutAuto
namespace Go.Proofs.Ytjlfpcgopenkmaa.cp
open Go.RowKit

theorem flip_ok {l : List Rc} (h : ∀ r ∈ l, r.ok) : ∀ r ∈ l.map flip, r.ok := by
  intro r hr
  obtain ⟨q, hq, rfl⟩ := List.mem_map.1 hr
  obtain ⟨_, h2, h3, h4, h5, h6, h7⟩ := h q hq
  refine ⟨?_, h2, h3, h4, h5, h6, h7⟩
  show I64 (if q.kind = 2 then 1 else 2)
  unfold I64
  split <;> omega

theorem keepP_len (all : List Rc) (now hor : Int) (l : List Rc) : ∀ (acc : List Rc) (mk : Int), (keepP all now hor acc mk l).1.length ≤ acc.length + l.length := by
  induction l with
  | nil => intro acc mk; simp [keepP]
  | cons r l ih =>
    intro acc mk
    unfold keepP
    split
    · have := ih acc mk; simp only [List.length_cons]; omega
    · split
      · have := ih (acc ++ [r]) mk; simp only [List.length_append, List.length_cons, List.length_nil] at this ⊢; omega
      · have := ih acc (r.off + 1); simp only [List.length_cons]; omega
theorem compP_len {a b o : List Rc} {now hor m e : Int} (h : compP a b now hor = (o, m, e)) : o.length ≤ a.length := by
  unfold compP at h
  split at h
  · obtain ⟨rfl, _⟩ := trip_eq h; simp
  · split at h
    · obtain ⟨rfl, _⟩ := trip_eq h; simp
    · obtain ⟨rfl, _⟩ := trip_eq h
      have := keepP_len (a ++ b) now (minH hor) a [] 0
      simpa using this
theorem compact_len (a b : List Rc) (A B : Option Addr) (n k c d : Nat) (now hor : Int) (w : World) (hnl : n = a.length) (hkl : k = b.length) (ha : Recs w w.heap.size A a) (hb : Recs w w.heap.size B b) (oka : ∀ r ∈ a, r.ok) (okb : ∀ r ∈ b, r.ok)
    (na : a.length ≤ 1048576) (nb : b.length ≤ 1048576) (n0 : -9223372036854775808 ≤ now) (n1 : now ≤ 9223372036854775807) (h0 : -9223372036854775808 ≤ hor) (h1 : hor ≤ 9223372036854775807) (out : List Rc) (mark err : Int) (hO : compP a b now hor = (out, mark, err)) :
    Calls Try.prog 13 #[.slice A n c, .slice B k d, .int .i64 now, .int .i64 hor] w fun e w' => ∃ v, e = .returned (.tuple #[v, .int .i64 mark, .int .i64 err]) ∧
      w'.ownsRow w.heap.size 33 7 v out.length (flat out) ∧ Below w.heap.size w w' := by
  subst hnl hkl
  exact compact_any a b A B c d now hor w ha hb oka okb na nb n0 n1 h0 h1 out mark err hO

set_option maxHeartbeats 6000000 in
set_option maxRecDepth 100000 in
theorem placed_any (a b : List Rc) (A B : Option Addr) (c d : Nat) (now hor : Int) (w : World) (ha : Recs w w.heap.size A a) (hb : Recs w w.heap.size B b) (oka : ∀ r ∈ a, r.ok) (okb : ∀ r ∈ b, r.ok)
    (na : a.length ≤ 1048576) (nb : b.length ≤ 1048576) (n0 : -9223372036854775808 ≤ now) (n1 : now ≤ 9223372036854775807) (h0 : -9223372036854775808 ≤ hor) (h1 : hor ≤ 9223372036854775807) :
    Calls Try.prog 16 #[.slice A a.length c, .slice B b.length d, .int .i64 now, .int .i64 hor] w fun e w' => e = .returned (.bool true) ∧ Below w.heap.size w w' := by
  have N0 : Hid (I64 now) := ⟨n0, n1⟩
  have H0 : Hid (I64 hor) := ⟨h0, h1⟩
  have HA := Lib.hid ha
  have HB := Lib.hid hb
  have OA := Lib.hid oka
  have OB := Lib.hid okb
  clear n0 n1 h0 h1 ha hb oka okb
  obtain ⟨a', hae⟩ : ∃ x, x = a.map flip := ⟨_, rfl⟩
  obtain ⟨b', hbe⟩ : ∃ x, x = b.map flip := ⟨_, rfl⟩
  have hal : a'.length = a.length := by rw [hae, List.length_map]
  have hbl : b'.length = b.length := by rw [hbe, List.length_map]
  have OA' : Hid (∀ r ∈ a', r.ok) := Lib.hid (by rw [hae]; exact flip_ok OA.out)
  have OB' : Hid (∀ r ∈ b', r.ok) := Lib.hid (by rw [hbe]; exact flip_ok OB.out)
  have na' : a'.length ≤ 1048576 := by omega
  have nb' : b'.length ≤ 1048576 := by omega
  have HAL := Lib.hid hal
  have HBL := Lib.hid hbl
  clear hal hbl
  obtain ⟨⟨o1, m1, e1⟩, hc1⟩ : ∃ x, compP a' b' now hor = x := ⟨_, rfl⟩
  obtain ⟨⟨o2, m2, e2⟩, hc2⟩ : ∃ x, compP a b now hor = x := ⟨_, rfl⟩
  have HC1 := Lib.hid hc1
  have HC2 := Lib.hid hc2
  clear hc1 hc2
  go_enter Try.func16, Try.ntmps16
  go_wp2_with fail
  refine (others_any a A c w HA.out na).mono ?_
  rintro e w1 ⟨v1, rfl, hv1, hb1⟩
  rw [← hae] at hv1
  obtain ⟨S, cS, rfl, hS⟩ := owns_slice hv1
  have HB1 := Lib.hid hb1
  have HS1 := Lib.hid hS
  clear hv1 hb1 hS hae
  go_wp2_with fail
  refine (others_any b B d w1 ((HB.out.below HB1.out).mono HB1.out.size) nb).mono ?_
  rintro e w2 ⟨v2, rfl, hv2, hb2⟩
  rw [← hbe] at hv2
  obtain ⟨T, cT, rfl, hT⟩ := owns_slice hv2
  have HB2 : Hid (Below w.heap.size w w2) := HB1.out.trans (hb2.mono HB1.out.size)
  have HS2 : Hid (Recs w2 w2.heap.size S a') := (HS1.out.below hb2).mono hb2.size
  have HT2 := Lib.hid hT
  clear hv2 hb2 hT hbe HB1 HS1
  go_wp2_with fail
  refine (spare_any a' S cS w2 HS2.out na').mono ?_
  rintro e w3 ⟨rfl, hb3, cs, hk3, hr3⟩
  have HB3 := Lib.hid hb3
  have HK3 := Lib.hid hk3
  have HR3 := Lib.hid hr3
  have hg3 := hk3.lt
  clear hb3 hk3 hr3
  obtain ⟨g, hg⟩ : ∃ g, g = w2.heap.size := ⟨_, rfl⟩
  rw [← hg] at HB3 HK3 HS2 HT2 hg3 ⊢
  have HBw : Hid (w.heap.size ≤ g) := Lib.hid (by rw [hg]; exact HB2.out.size)
  have HBg : Hid (Below w.heap.size w w3) := HB2.out.trans (HB3.out.mono HBw.out)
  have HS3 : Hid (Recs w3 g S a') := HS2.out.below HB3.out
  have HT3 : Hid (Recs w3 g T b') := HT2.out.below HB3.out
  clear HS2 HT2 HB2 hg HB3
  go_wp2_with fail
  refine (spare_any b' T cT w3 (HT3.out.mono (Nat.le_of_lt hg3)) nb').mono ?_
  rintro e w4 ⟨rfl, hb4, ds, hk4, hr4⟩
  have HK4 := Lib.hid hk4
  have HR4 := Lib.hid hr4
  have hg4 := hk4.lt
  obtain ⟨h, hh⟩ : ∃ h, h = w3.heap.size := ⟨_, rfl⟩
  rw [← hh] at hb4 HK4 hg4 hg3 ⊢
  have HBh : Hid (Below w.heap.size w w4) := HBg.out.trans (hb4.mono (by have := HBw.out; omega))
  have HS4 : Hid (Recs w4 g S a') := HS3.out.below (hb4.mono (Nat.le_of_lt hg3))
  have HT4 : Hid (Recs w4 g T b') := HT3.out.below (hb4.mono (Nat.le_of_lt hg3))
  have HK4a : Hid (Blk w4 g 33 cs) := HK3.out.below hb4 hg3
  clear hb4 hk4 hr4 hh HS3 HT3 HK3 HBg
  have hsl : a'.length ≤ a'.length + 1 := Nat.le_succ _
  have htl : b'.length ≤ b'.length + 1 := Nat.le_succ _
  go_upto_region 5 with fail
  have HRg : Hid (Recs w4 w4.heap.size (some ⟨g, 0, none⟩) a') := Rows.recs HK4a.out (by have := HR3.out.take a'.length; rw [List.take_left' rfl] at this; exact this) (by omega)
  have HRh : Hid (Recs w4 w4.heap.size (some ⟨h, 0, none⟩) b') := Rows.recs HK4.out (by have := HR4.out.take b'.length; rw [List.take_left' rfl] at this; exact this) hg4
  go_cut [13, 14, 15] (fun s13 s14 s15 wx => ∃ (X : Option Addr) (cX : Nat), s13 = .slice X o1.length cX ∧ s14 = .int .i64 m1 ∧ s15 = .int .i64 e1 ∧ Hid (Below w4.heap.size w4 wx) ∧ Hid (wx.ownsRow w4.heap.size 33 7 (.slice X o1.length cX) o1.length (flat o1)))
  case first =>
    go_region_with (go_at_call 13; refine (compact_any a' b' _ _ _ _ now hor _ ?_ ?_ OA'.out OB'.out na' nb' N0.out.1 N0.out.2 H0.out.1 H0.out.2 o1 m1 e1 HC1.out).mono ?_; exact HRg.out; exact HRh.out; rintro e w5 ⟨v5, rfl, hv5, hb5⟩; obtain ⟨X, cX, rfl, _⟩ := owns_slice hv5)
    all_goals
      have HBq : Hid (Below w4.heap.size w4 w5) := ⟨hb5.os, hb5.tape, hb5.output, hb5.size, hb5.block⟩
      have HVq : Hid (w5.ownsRow w4.heap.size 33 7 (.slice X o1.length cX) o1.length (flat o1)) := hv5
      clear hb5 hv5
      simp only [Exit.then]
      go_step
      refine Met.intro ?_
      go_step
      (repeat apply Exists.intro)
      exact ⟨⟨X, cX, rfl, rfl, rfl, HBq, HVq⟩, rfl⟩
  case rest =>
    obtain ⟨X, cX, rfl, rfl, rfl, HB5, HV5⟩ := hcut
    have HS5 : Hid (Recs wc g S a') := HS4.out.below (HB5.out.mono (by omega))
    have HT5 : Hid (Recs wc g T b') := HT4.out.below (HB5.out.mono (by omega))
    have HK5a : Hid (Blk wc g 33 cs) := HK4a.out.below HB5.out (by omega)
    have HK5 : Hid (Blk wc h 33 ds) := HK4.out.below HB5.out hg4
    have HB5w : Hid (Below w.heap.size w wc) := HBh.out.trans (HB5.out.mono (by have := HBw.out; omega))
    have HQ5 : Hid (∀ q, (Value.slice X o1.length cX).ownBlock = some q → h < q) := Lib.hid (fun q hq => Nat.lt_of_lt_of_le hg4 (HV5.out.lt q hq).1)
    have hgc : h < wc.heap.size := Nat.lt_of_lt_of_le hg4 HB5.out.size
    clear HS4 HT4 HK4a HK4 HBh HRg HRh
    obtain ⟨w5, hw5⟩ : ∃ x, x = wc := ⟨_, rfl⟩
    have HV5b : Hid (w5.ownsRow w4.heap.size 33 7 (.slice X o1.length cX) o1.length (flat o1)) := by rw [hw5]; exact HV5
    have HW5 := Lib.hid hw5
    clear HV5 hw5
    go_wp2_with fail
    go_loopw [16] (fun i wr => ∃ (k : Nat) (cs' : Array Value), k ≤ a'.length ∧ i = .int .i64 k ∧ Hid (w5.grownBy wr (some g)) ∧ Hid (wr.heap.size = w5.heap.size) ∧ Hid (Blk wr g 33 cs') ∧ Hid (Rows cs' (a'.length + 1) (a.take k ++ (a' ++ [r77]).drop k)) ∧ Hid (Below w.heap.size w wr)) (fun i _ => a'.length - (intOf i).toNat)
    case atStart => exact ⟨0, cs, Nat.zero_le _, rfl, by rw [HW5.out]; exact World.grownBy.refl _ _, by rw [HW5.out]; exact rfl, HK5a, HR3, HB5w⟩
    case round =>
      obtain ⟨k, cs', hk, rfl, HG, HGS, HK, HR, HBr⟩ := hrel
      by_cases hlt : k < a'.length
      · have hkx : k < a.length := by have := HAL.out; omega
        obtain ⟨b0, off, rfl, hb0, hcl⟩ := HA.out.at_ hkx
        have RS := Lib.hid (fun (i : Nat) (v : Value) (h : (RcL a[k])[i]? = some v) => (HBr.out.cell (p := (⟨b0, off + k * 7, none⟩ : Addr).add i) (by rw [add_flat]; exact hb0)).trans (hcl i v h))
        obtain ⟨r, hrj⟩ : ∃ r, a[k] = r := ⟨_, rfl⟩
        rw [hrj] at RS
        have HJ := Lib.hid hrj
        have hkx2 : ((k : Nat) : Int) < (a.length : Nat) := by omega
        have X1 : k * 7 + 7 ≤ cs'.size := HR.out.le (by omega)
        have hk1 : k < a'.length + 1 := by omega
        clear hcl hrj hb0
        go_wp2_with (first
          | ((with_reducible refine at_op ⟨_, .load 33 (.tmp 60), _, _, _, _⟩ ?_); refine wpList_load_list rfl 33 (.tmp 60) rfl ⟨b0, off + k * 7, none⟩ rfl (RcL r) RS.out _ Try.underlying33 rfl (by kernel_rfl) ?_)
          | ((with_reducible refine at_op ⟨_, .store 33 (.tmp 62) (.tmp 61), _, _, _, _⟩ ?_); refine wpList_store_blk rfl 33 (.tmp 62) (.tmp 61) rfl g (k * 7) rfl (RcL r) rfl (RcL_one r) 33 cs' HK.out X1 (by kernel_rfl) ?_; clear X1; intro wn hT1 hg1 hs1; have HT1 := Lib.hid hT1; have HG1 := Lib.hid hg1; have HS1 := Lib.hid hs1; clear hT1 hg1 hs1)
          | fail)
        go_roundw
        case rel => exact ⟨k + 1, _, by omega, by go_num, grownBy_tr HG.out HG1.out, HS1.out.trans HGS.out, HT1, Lib.hid (by
          have h := HR.out.over (i := k) (by rw [List.length_append, take_len (by omega), List.length_drop, List.length_append]; show k < k + (a'.length + 1 - k); omega) r
          rw [← HJ.out, fill_set a (a' ++ [r77]) k hkx (by rw [List.length_append]; show k < a'.length + 1; omega)] at h
          rw [← HJ.out]
          exact h), below_gb HBr.out HG1.out HBr.out.size (by have := HBw.out; omega)⟩
        case measure => simp [intOf]; omega
      · have hkl : k = a'.length := by omega
        have HR6 : Hid (Rows cs' (a'.length + 1) (a ++ [r77])) := Lib.hid (by
          have h := HR.out
          rw [hkl, List.drop_left' rfl, HAL.out, List.take_length] at h
          rw [HAL.out]
          exact h)
        clear hkl HR
        have HS5b : Hid (Recs w5 g S a') := by rw [HW5.out]; exact HS5
        have HT5b : Hid (Recs w5 g T b') := by rw [HW5.out]; exact HT5
        have HS6 : Hid (Recs wr g S a') := HS5b.out.below ((Below.refl g w5).grown HG.out (by rw [HW5.out]; omega) (fun q e => by injection e with e; omega))
        have HT6 : Hid (Recs wr g T b') := HT5b.out.below ((Below.refl g w5).grown HG.out (by rw [HW5.out]; omega) (fun q e => by injection e with e; omega))
        have HK6 : Hid (Blk wr h 33 ds) := (show Blk w5 h 33 ds by rw [HW5.out]; exact HK5.out).gb HG.out (by omega)
        have HV6 : Hid (wr.ownsRow w4.heap.size 33 7 (.slice X o1.length cX) o1.length (flat o1)) := HV5b.out.kept HG.out (Or.inr (by intro e; have := HQ5.out g e; omega))
        have hgr : h < wr.heap.size := by rw [HGS.out, HW5.out]; exact hgc
        obtain ⟨w6, hw6⟩ : ∃ x, x = wr := ⟨_, rfl⟩
        have HV6b : Hid (w6.ownsRow w4.heap.size 33 7 (.slice X o1.length cX) o1.length (flat o1)) := by rw [hw6]; exact HV6
        have HW6 := Lib.hid hw6
        have HB6w := HBr
        have HKa := HK
        have HR6a := HR6
        clear HV6 hw6 HS5 HT5 HS5b HT5b HK5 HV5b HB5w HG HGS HBr hgc HK HK5a
        go_wp2_with fail
        obtain ⟨wo, rfl⟩ : ∃ wo : World, wo = wr := ⟨_, rfl⟩
        have hfirst : a'.length ≤ a'.length := Nat.le_refl _
        go_loopw [17] (fun i wr => ∃ (k : Nat) (ds' : Array Value), k ≤ b'.length ∧ i = .int .i64 k ∧ Hid (w6.grownBy wr (some h)) ∧ Hid (wr.heap.size = w6.heap.size) ∧ Hid (Blk wr h 33 ds') ∧ Hid (Rows ds' (b'.length + 1) (b.take k ++ (b' ++ [r77]).drop k)) ∧ Hid (Below w.heap.size w wr)) (fun i _ => b'.length - (intOf i).toNat)
        case atStart => exact ⟨0, ds, Nat.zero_le _, rfl, by rw [HW6.out]; exact World.grownBy.refl _ _, by rw [HW6.out]; exact rfl, HK6, HR4, HB6w⟩
        case round =>
          obtain ⟨k, ds', hk, rfl, HG, HGS, HK, HR, HBr⟩ := hrel
          by_cases hlt : k < b'.length
          · have hkx : k < b.length := by have := HBL.out; omega
            obtain ⟨b0, off, rfl, hb0, hcl⟩ := HB.out.at_ hkx
            have RS := Lib.hid (fun (i : Nat) (v : Value) (h : (RcL b[k])[i]? = some v) => (HBr.out.cell (p := (⟨b0, off + k * 7, none⟩ : Addr).add i) (by rw [add_flat]; exact hb0)).trans (hcl i v h))
            obtain ⟨r, hrj⟩ : ∃ r, b[k] = r := ⟨_, rfl⟩
            rw [hrj] at RS
            have HJ := Lib.hid hrj
            have hkx2 : ((k : Nat) : Int) < (b.length : Nat) := by omega
            have X1 : k * 7 + 7 ≤ ds'.size := HR.out.le (by omega)
            have hk1 : k < b'.length + 1 := by omega
            clear hcl hrj hb0
            go_wp2_with (first
              | ((with_reducible refine at_op ⟨_, .load 33 (.tmp 73), _, _, _, _⟩ ?_); refine wpList_load_list rfl 33 (.tmp 73) rfl ⟨b0, off + k * 7, none⟩ rfl (RcL r) RS.out _ Try.underlying33 rfl (by kernel_rfl) ?_)
              | ((with_reducible refine at_op ⟨_, .store 33 (.tmp 75) (.tmp 74), _, _, _, _⟩ ?_); refine wpList_store_blk rfl 33 (.tmp 75) (.tmp 74) rfl h (k * 7) rfl (RcL r) rfl (RcL_one r) 33 ds' HK.out X1 (by kernel_rfl) ?_; clear X1; intro wn hT1 hg1 hs1; have HT1 := Lib.hid hT1; have HG1 := Lib.hid hg1; have HS1 := Lib.hid hs1; clear hT1 hg1 hs1)
              | fail)
            go_roundw
            case rel => exact ⟨k + 1, _, by omega, by go_num, grownBy_tr HG.out HG1.out, HS1.out.trans HGS.out, HT1, Lib.hid (by
              have h := HR.out.over (i := k) (by rw [List.length_append, take_len (by omega), List.length_drop, List.length_append]; show k < k + (b'.length + 1 - k); omega) r
              rw [← HJ.out, fill_set b (b' ++ [r77]) k hkx (by rw [List.length_append]; show k < b'.length + 1; omega)] at h
              rw [← HJ.out]
              exact h), below_gb HBr.out HG1.out HBr.out.size (by have := HBw.out; omega)⟩
            case measure => simp [intOf]; omega
          · have hkl : k = b'.length := by omega
            have HR6 : Hid (Rows ds' (b'.length + 1) (b ++ [r77])) := Lib.hid (by
              have h := HR.out
              rw [hkl, List.drop_left' rfl, HBL.out, List.take_length] at h
              rw [HBL.out]
              exact h)
            clear hkl HR
            have HS6b : Hid (Recs w6 g S a') := by rw [HW6.out]; exact HS6
            have HT6b : Hid (Recs w6 g T b') := by rw [HW6.out]; exact HT6
            have HK6b : Hid (Blk w6 g 33 cs') := by rw [HW6.out]; exact HKa
            have hgh : g < w6.heap.size := HK6b.out.lt
            have HB7 : Hid (Below g w6 wr) := (Below.refl g w6).grown HG.out (Nat.le_of_lt hgh) (fun q e => by injection e with e; omega)
            have HS7 : Hid (Recs wr g S a') := HS6b.out.below HB7.out
            have HT7 : Hid (Recs wr g T b') := HT6b.out.below HB7.out
            have HK7 : Hid (Blk wr g 33 cs') := HK6b.out.gb HG.out (by omega)
            have hh7 : h < wr.heap.size := HK.out.lt
            have HV7 : Hid (wr.ownsRow w4.heap.size 33 7 (.slice X o1.length cX) o1.length (flat o1)) := HV6b.out.kept HG.out (Or.inr (by intro e; have := HQ5.out h e; omega))
            have HRa : Hid (Recs wr wr.heap.size (some ⟨g, 0, none⟩) a) := Rows.recs HK7.out (by have := HR6a.out.take a.length; rw [List.take_left' rfl] at this; exact this) (by omega)
            have HRb : Hid (Recs wr wr.heap.size (some ⟨h, 0, none⟩) b) := Rows.recs HK.out (by have := HR6.out.take b.length; rw [List.take_left' rfl] at this; exact this) hh7
            have HB7w := HBr
            clear HS6 HT6 HS6b HT6b HK6b HB7 HK6 HV6b HB6w HG HGS HBr HKa HK7 HK
            go_upto_region 14 with fail
            obtain ⟨w7, rfl⟩ : ∃ w7 : World, w7 = wr := ⟨_, rfl⟩
            go_cut [18, 19, 20] (fun s13 s14 s15 wx => ∃ (Y : Option Addr) (cY : Nat), s13 = .slice Y o2.length cY ∧ s14 = .int .i64 m2 ∧ s15 = .int .i64 e2 ∧ Hid (Below w7.heap.size w7 wx) ∧ Hid (wx.ownsRow w7.heap.size 33 7 (.slice Y o2.length cY) o2.length (flat o2)))
            case first =>
              go_region_with (go_at_call 13; refine (compact_len a b _ _ _ _ _ _ now hor _ HAL.out HBL.out ?_ ?_ OA.out OB.out na nb N0.out.1 N0.out.2 H0.out.1 H0.out.2 o2 m2 e2 HC2.out).mono ?_; exact HRa.out; exact HRb.out; rintro e w5' ⟨v5, rfl, hv5, hb5⟩; obtain ⟨Y, cY, rfl, _⟩ := owns_slice hv5)
              all_goals
                have HBq : Hid (Below w7.heap.size w7 w5') := ⟨hb5.os, hb5.tape, hb5.output, hb5.size, hb5.block⟩
                have HVq : Hid (w5'.ownsRow w7.heap.size 33 7 (.slice Y o2.length cY) o2.length (flat o2)) := hv5
                clear hb5 hv5
                simp only [Exit.then]
                go_step
                refine Met.intro ?_
                go_step
                (repeat apply Exists.intro)
                exact ⟨⟨Y, cY, rfl, rfl, rfl, HBq, HVq⟩, rfl⟩
            case rest =>
              obtain ⟨Y, cY, rfl, rfl, rfl, HB8, HV8⟩ := hcut
              have HS8 : Hid (Recs wc wc.heap.size S a') := (HS7.out.below (HB8.out.mono (by omega))).mono (by have := HB8.out.size; omega)
              have HT8 : Hid (Recs wc wc.heap.size T b') := (HT7.out.below (HB8.out.mono (by omega))).mono (by have := HB8.out.size; omega)
              have HX8 : Hid (wc.ownsRow w4.heap.size 33 7 (.slice X o1.length cX) o1.length (flat o1)) := HV7.out.kept (grown_of_below HB8.out) (by cases hv : Value.ownBlock _ <;> simp)
              have HB8w : Hid (Below w.heap.size w wc) := HB7w.out.trans (HB8.out.mono (by have := HBw.out; omega))
              clear HS7 HT7 HV7 HRa HRb HB7w HB8
              have lo1 : o1.length ≤ 1048576 := Nat.le_trans (compP_len HC1.out) na'
              have lo2 : o2.length ≤ 1048576 := Nat.le_trans (compP_len HC2.out) na
              go_wp2_with fail
              refine (rcompact_any a' b' S T cS cT now hor wc HS8.out HT8.out OA'.out na' nb' N0.out.1 N0.out.2 H0.out.1 H0.out.2 o1 m1 e1 ((comp_same _ _ _ _).symm.trans HC1.out)).mono ?_
              rintro e w9 ⟨v9, rfl, hv9, hb9⟩
              obtain ⟨Z, cZ, rfl, _⟩ := owns_slice hv9
              have HZ9 := Lib.hid hv9
              have HX9 : Hid (w9.ownsRow w4.heap.size 33 7 (.slice X o1.length cX) o1.length (flat o1)) := HX8.out.kept (grown_of_below hb9) (by cases hv : Value.ownBlock _ <;> simp)
              have HY9 : Hid (w9.ownsRow w7.heap.size 33 7 (.slice Y o2.length cY) o2.length (flat o2)) := HV8.out.kept (grown_of_below hb9) (by cases hv : Value.ownBlock _ <;> simp)
              have HB9w : Hid (Below w.heap.size w w9) := HB8w.out.trans (hb9.mono HB8w.out.size)
              clear hv9 hb9 HS8 HT8 HX8 HV8 HB8w
              go_wp2_with fail
              refine (rcompact_any a b A B c d now hor w9 ((HA.out.below HB9w.out).mono HB9w.out.size) ((HB.out.below HB9w.out).mono HB9w.out.size) OA.out na nb N0.out.1 N0.out.2 H0.out.1 H0.out.2 o2 m2 e2 ((comp_same _ _ _ _).symm.trans HC2.out)).mono ?_
              rintro e w10 ⟨v10, rfl, hv10, hb10⟩
              obtain ⟨U, cU, rfl, _⟩ := owns_slice hv10
              have HU := Lib.hid (Recs.of_owns hv10).1
              have HX := Lib.hid (Recs.of_owns (HX9.out.kept (grown_of_below hb10) (by cases hv : Value.ownBlock _ <;> simp))).1
              have HY := Lib.hid (Recs.of_owns (HY9.out.kept (grown_of_below hb10) (by cases hv : Value.ownBlock _ <;> simp))).1
              have HZ := Lib.hid (Recs.of_owns (HZ9.out.kept (grown_of_below hb10) (by cases hv : Value.ownBlock _ <;> simp))).1
              have HB10 : Hid (Below w.heap.size w w10) := HB9w.out.trans (hb10.mono HB9w.out.size)
              clear hv10 hb10 HZ9 HX9 HY9 HB9w
              go_wp2_with fail
              refine (same_any o1 X Z cX cZ w10 _ _ HX.out HZ.out lo1).mono ?_
              rintro e w11 ⟨rfl, hb11⟩
              have HB11 := Lib.hid hb11
              clear hb11
              go_wp2_with fail
              refine (same_any o2 Y U cY cU w11 _ _ (HY.out.below (HB11.out _)) (HU.out.below (HB11.out _)) lo2).mono ?_
              rintro e w12 ⟨rfl, hb12⟩
              have HB12 := Lib.hid hb12
              clear hb12
              go_wp2_with fail
              go_ret
              exact ⟨rfl, (HB10.out.trans (HB11.out _)).trans (HB12.out _)⟩
end Go.Proofs.Ytjlfpcgopenkmaa.cp
