/-
  The program's Show walked.
  Conditions: numbers as their types have them; the response is within the bound of the statement; two tables are as they were laid.
-/
import Derived.Test.YtepalbldleegiaaGreatDoorSwl
import Derived.Lib.QuietBelow
import Derived.Deep.DeepCutAuto
namespace Go.Proofs.YtepalbldleegiaaGreatDoor.sh
open Go.RowKit
open Go.Lib (itoa decDigits byteCells)

theorem at_seq {P : Program} {c1 c2 : Code} {a : Act} {w : World} {Q : Exit → Act → World → Prop} (h : (Code.seq c1 c2).wp P Q a w) : (Code.seq c1 c2).wp P Q a w := h
set_option maxRecDepth 100000 in
set_option maxHeartbeats 4000000 in
theorem show_any (r : Rsp Rec) (A : Option Addr) (c : Nat) (D : Option Addr) (d : Nat) (w : World) (ht : Tab w) (hcd : Cod w) (hid : 0 ≤ r.id ∧ r.id < 4294967296) (hop : I64 r.op) (hco : I64 r.code) (hof : I64 r.off) (hnu : I64 r.num) (hnm : NamesAt w w.heap.size D r.names) (hN : lenN r.names ≤ 2147483647) (hrc : RecsAt w w.heap.size A r.recs) (hrk : ∀ x ∈ r.recs, x.ok) (hR : lenR r.recs ≤ 2147483647) :
    Calls Tryz.prog 19 #[rspV r A c D d] w fun e w' => e = .returned (.string (S (showL r))) ∧ Below w.heap.size w w' := by
  obtain ⟨i0, hi0, hz0, hz1, hz2⟩ := info_parts infoStr
  have HSL := Lib.hid (show_len r hid hop hco hof hnu hN hrk hR)
  unfold rspV
  go_enter Tryz.func19, Tryz.ntmps19
  go_upto_region 1 with fail
  obtain ⟨g, hg⟩ : ∃ g, g = w.heap.size := ⟨_, rfl⟩
  have hT0 := Blk.new w 45 #[.int .u32 r.id, .int .i64 r.op, .int .i64 r.code, .int .i64 r.off, .int .i64 r.num, .bool r.more, .slice A r.recs.length c, .slice D r.names.length d]
  have hB0 : Below w.heap.size w (w.alloc (.cells #[.int .u32 r.id, .int .i64 r.op, .int .i64 r.code, .int .i64 r.off, .int .i64 r.num, .bool r.more, .slice A r.recs.length c, .slice D r.names.length d] 45)) := (Below.refl _ _).alloc (Nat.le_refl _) _
  have HTAB := Lib.hid (tab_below ht hB0)
  have HCOD := Lib.hid (cod_below hcd hB0)
  rw [← hg] at hT0 hB0 ⊢
  generalize hw0 : w.alloc (.cells #[.int .u32 r.id, .int .i64 r.op, .int .i64 r.code, .int .i64 r.off, .int .i64 r.num, .bool r.more, .slice A r.recs.length c, .slice D r.names.length d] 45) = w0 at hT0 hB0 HTAB HCOD ⊢
  have HT0 := Lib.hid hT0
  have HB0 := Lib.hid hB0
  have HNM := Lib.hid hnm
  have HN := Lib.hid hN
  have HRC := Lib.hid hrc
  have HRK := Lib.hid hrk
  have HRN := Lib.hid hR
  clear hnm hN hrc hrk hR ht hcd
  have c2 : w0.cell? ⟨g, 2, none⟩ = some (.int .i64 r.code) := hT0.cell 2
  have HGE := Lib.hid hg
  clear hT0 hB0 hw0 hg
  have hadd : ∀ W, (Op.stringOp .add (⟨#[99, 111, 100, 101]⟩ : ByteArray) (S (itoa r.code))).run Tryz.prog W = .ok (.string (S (99 :: 111 :: 100 :: 101 :: itoa r.code))) W := fun W => S_add [99, 111, 100, 101] _ (by have := itoa_len hco.1 hco.2; simp only [List.length_cons, List.length_nil]; omega) W
  go_wp2_with fail
  refine (number_any r.code hco.1 hco.2 w0 HTAB.out).mono ?_
  rintro e w1 ⟨rfl, hb1⟩
  have HB1 := Lib.hid hb1
  have HT1 := Lib.hid (HT0.out.below hb1 HT0.out.lt)
  have HC1 := Lib.hid (cod_below HCOD.out hb1)
  have HTAB1 := Lib.hid (tab_below HTAB.out hb1)
  clear hb1 c2 HCOD
  have c2 : w1.cell? ⟨g, 2, none⟩ = some (.int .i64 r.code) := HT1.out.cell 2
  go_upto_region 2 with fail
  clear hadd
  obtain ⟨kb, hkb⟩ : ∃ b : Bool, decide (0 ≤ r.code ∧ r.code < 12) = b := ⟨_, rfl⟩
  obtain ⟨kc, hkc⟩ : ∃ y : Bs, codeL r.code = y := ⟨_, rfl⟩
  have KB := Lib.hid hkb
  have KC := Lib.hid hkc
  clear hkb hkc
  go_cut [22] (fun s22 wx => s22 = .bool kb ∧ w1 = wx)
  case first =>
    by_cases h0 : 0 ≤ r.code
    · by_cases h1 : r.code < 12
      · go_wp2_with fail
        go_meet
        exact ⟨congrArg Value.bool (by rw [← KB.out]; simp [h0, h1]), rfl⟩
      · go_wp2_with fail
        go_meet
        exact ⟨congrArg Value.bool (by rw [← KB.out]; simp; omega), rfl⟩
    · go_wp2_with fail
      go_meet
      exact ⟨congrArg Value.bool (by rw [← KB.out]; simp; omega), rfl⟩
  case rest =>
    obtain ⟨rfl, hwc⟩ := hcut
    subst hwc
    go_upto_if 22 with fail
    go_cut [3] (fun s3 wx => s3 = .string (S kc) ∧ w1 = wx)
    case first =>
      cases hb : kb with
      | true =>
        have hk : 0 ≤ r.code ∧ r.code < 12 := by have := KB.out; rw [hb] at this; simpa using this
        obtain ⟨hk0, hk1⟩ := hk
        have q0 := HC1.out.cell hk0 hk1
        rw [KC.out] at q0
        go_wp2_with fail
        go_meet
        exact ⟨rfl, rfl⟩
      | false =>
        have hk : S (99 :: 111 :: 100 :: 101 :: itoa r.code) = S kc := by
          have := KB.out
          rw [hb] at this
          rw [← KC.out]
          unfold codeL
          rw [if_neg (by simpa using this)]
        go_wp2_with fail
        go_meet
        exact ⟨congrArg Value.string hk, rfl⟩
    case rest =>
      obtain ⟨rfl, hwc⟩ := hcut
      subst hwc
      clear c2
      obtain ⟨mo, hmo⟩ : ∃ b, r.more = b := ⟨_, rfl⟩
      have c5 : w1.cell? ⟨g, 5, none⟩ = some (.bool mo) := by rw [← hmo]; exact HT1.out.cell 5
      obtain ⟨x6, hx6⟩ : ∃ y : Bs, moreL mo = y := ⟨_, rfl⟩
      have HMO := Lib.hid hmo
      have X6 := Lib.hid hx6
      clear hmo hx6
      go_upto_if 28 with fail
      go_cut [4] (fun s4 wx => s4 = .string (S x6) ∧ w1 = wx)
      case first =>
        cases mo with
        | true =>
          have h6 : S [109, 111, 114, 101] = S x6 := by rw [← X6.out]; rfl
          go_wp2_with fail
          go_meet
          exact ⟨congrArg Value.string h6, rfl⟩
        | false =>
          have h6 : S [108, 97, 115, 116] = S x6 := by rw [← X6.out]; rfl
          go_wp2_with fail
          go_meet
          exact ⟨congrArg Value.string h6, rfl⟩
      case rest =>
        obtain ⟨rfl, hwc⟩ := hcut
        subst hwc
        clear c5
        go_upto_region 7 with fail
        have k0 := cell_regrown (show w1.cell? ⟨g, 0, none⟩ = some (.int .u32 r.id) from HT1.out.cell 0)
        have k1 := cell_regrown (show w1.cell? ⟨g, 1, none⟩ = some (.int .i64 r.op) from HT1.out.cell 1)
        have k3 := cell_regrown (show w1.cell? ⟨g, 3, none⟩ = some (.int .i64 r.off) from HT1.out.cell 3)
        have k4 := cell_regrown (show w1.cell? ⟨g, 4, none⟩ = some (.int .i64 r.num) from HT1.out.cell 4)
        have q1 : ∀ d os, Calls Tryz.prog 33 #[.int .i64 r.id] (Sort.grow (redrawn w1 d) os) fun e w'' => e = .returned (.string (S (itoa r.id))) ∧ ∃ p : Regrown, w'' = Sort.grow (redrawn w1 p.d) p.os := fun d os => Calls.regrown_of (number_any r.id (by omega) (by omega) _ (tab_below HTAB1.out (below_regrown w1 d os)))
        have q2 : ∀ d os, Calls Tryz.prog 34 #[.int .i64 r.op] (Sort.grow (redrawn w1 d) os) fun e w'' => e = .returned (.string (S (opL r.op))) ∧ ∃ p : Regrown, w'' = Sort.grow (redrawn w1 p.d) p.os := fun d os => Calls.regrown_of (operation_any r.op hop.1 hop.2 _ (tab_below HTAB1.out (below_regrown w1 d os)))
        have q4 : ∀ d os, Calls Tryz.prog 33 #[.int .i64 r.off] (Sort.grow (redrawn w1 d) os) fun e w'' => e = .returned (.string (S (itoa r.off))) ∧ ∃ p : Regrown, w'' = Sort.grow (redrawn w1 p.d) p.os := fun d os => Calls.regrown_of (number_any r.off hof.1 hof.2 _ (tab_below HTAB1.out (below_regrown w1 d os)))
        have q5 : ∀ d os, Calls Tryz.prog 33 #[.int .i64 r.num] (Sort.grow (redrawn w1 d) os) fun e w'' => e = .returned (.string (S (itoa r.num))) ∧ ∃ p : Regrown, w'' = Sort.grow (redrawn w1 p.d) p.os := fun d os => Calls.regrown_of (number_any r.num hnu.1 hnu.2 _ (tab_below HTAB1.out (below_regrown w1 d os)))
        obtain ⟨x1, hx1⟩ : ∃ y : Bs, itoa r.id = y := ⟨_, rfl⟩
        obtain ⟨x2, hx2⟩ : ∃ y : Bs, opL r.op = y := ⟨_, rfl⟩
        obtain ⟨x4, hx4⟩ : ∃ y : Bs, itoa r.off = y := ⟨_, rfl⟩
        obtain ⟨x5, hx5⟩ : ∃ y : Bs, itoa r.num = y := ⟨_, rfl⟩
        have HH : Hid (headParts r = [x1, x2, kc, x4, x5, x6]) := Lib.hid (by unfold headParts; rw [hx1, hx2, KC.out, hx4, hx5, HMO.out, X6.out])
        rw [hx1] at q1
        rw [hx2] at q2
        rw [hx4] at q4
        rw [hx5] at q5
        clear hx1 hx2 hx4 hx5 KC KB X6 HMO
        go_cut [5] (fun s5 wx => Hid (Below w0.heap.size w0 wx) ∧ Hid (wx.ownsRow w0.heap.size 9 1 s5 6 (strV (headParts r))))
        case first =>
          refine wp_quiet_tail 15 (by kernel_rfl) (by kernel_rfl) (by kernel_rfl) ?_
          simp only [List.take_succ_cons, List.take_zero, List.drop_succ_cons, List.drop_zero]
          repeat (first | go_big_quiet_skip | (go_big_quiet_want; go_big_quiet_op; first | go_big_quiet_on | (apply Exists.intro; refine ⟨fun _ => ?_, ?_⟩; · (first | with_reducible exact q1 _ _ | with_reducible exact q2 _ _ | with_reducible exact q4 _ _ | with_reducible exact q5 _ _)); go_big_quiet_on))
          refine wpQuiet_nil ?_
          intro wq hw'
          obtain ⟨⟨dq, osq⟩, hw''⟩ := hw'
          have HBq : Hid (Below w0.heap.size w0 wq) := by rw [hw'']; exact HB1.out.trans ((below_regrown w1 dq osq).mono HB1.out.size)
          clear hw'' k0 k1 k3 k4 q1 q2 q4 q5
          go_wp2_with fail
          go_meet
          exact ⟨HBq.out.alloc HBq.out.size _, own_built wq _ _ _ _ _ HBq.out.size (by rw [HH.out]; rfl) rfl (by decide)⟩
        case rest =>
          obtain ⟨HBc, HOc⟩ := hcut
          clear k0 k1 k3 k4 q1 q2 q4 q5
          have HTc := Lib.hid (HT0.out.below HBc.out HT0.out.lt)
          have HBw : Hid (Below w.heap.size w w0) := by rw [← HGE.out]; exact HB0.out
          have c7 : wc.cell? ⟨g, 7, none⟩ = some (.slice D r.names.length d) := HTc.out.cell 7
          have hnl : r.names.length ≤ 2147483647 := Nat.le_trans (lenN_ge _) HN.out
          clear HB1 HT1 HC1 HTAB1 HH
          go_wp2_with fail
          go_loopw [5, 48] (fun s5 i wr => ∃ (j : Nat), j ≤ r.names.length ∧ i = .int .i64 j ∧ Hid (Below w0.heap.size w0 wr) ∧ Hid (wr.ownsRow w0.heap.size 9 1 s5 (6 + 2 * j) (strV (headParts r ++ (r.names.take j).flatMap nmP)))) (fun _ i _ => r.names.length - (intOf i).toNat)
          case atStart => exact ⟨0, Nat.zero_le _, rfl, HBc, by rw [List.take_zero, List.flatMap_nil, List.append_nil]; exact HOc⟩
          case round =>
            obtain ⟨j, hj, rfl, HBr, HOr⟩ := hrel
            have q7 : wr.cell? ⟨g, 7, none⟩ = some (.slice D r.names.length d) := (HT0.out.below HBr.out HT0.out.lt).cell 7
            by_cases hlt : j < r.names.length
            · obtain ⟨b, off, rfl, hb, hcl⟩ := HNM.out (by intro e; rw [e] at hlt; simp at hlt)
              have q0 := ((HBw.out.trans (HBr.out.mono HBw.out.size)).cell (p := ⟨b, off + j, none⟩) hb).trans (hcl j _ (List.getElem?_eq_getElem hlt))
              obtain ⟨x, hx⟩ : ∃ x, r.names[j] = x := ⟨_, rfl⟩
              have hxl : x.length ≤ 2147483647 := by
                have := lenN_mem (List.getElem_mem hlt)
                rw [hx] at this
                have := HN.out
                omega
              rw [hx] at q0
              have HX := Lib.hid hx
              clear hcl hx hb
              go_wp2_with fail
              refine (text_any x (by omega) wr).mono ?_
              rintro e w2 ⟨rfl, hb2⟩
              have HB2 : Hid (Below w0.heap.size w0 w2) := HBr.out.trans (hb2.mono HBr.out.size)
              have HO2 := Lib.hid (own_keep HOr.out hb2)
              clear hb2 HBr HOr q7 q0
              simp only []
              go_step
              go_step
              go_step
              go_step
              refine wpList_append_own (w2.alloc (.cells #[.string (⟨#[110, 97, 109, 101]⟩ : ByteArray), .string (S (textL x))] 9)) rfl (.tmp 52) (.tmp 55) 43 rfl w0.heap.size 9 i0 _ 1 16 Tryz.underlying43 hi0 hz0 hz1 hz2 rfl (by decide) _ (6 + 2 * j) _ rfl (HO2.out.alloc _) ⟨w2.heap.size, 0, none⟩ 2 2 (strV (nmP x)) rfl rfl (built_cells w2 _ _ _ rfl) (strV_one _) (le_maxLen (by omega)) (by omega) (le_alloc _ HB2.out.size) ?_
              intro v6 w6 hown6 hg6 _
              have HB6 : Hid (Below w0.heap.size w0 w6) := (HB2.out.alloc HB2.out.size _).grown hg6 (le_alloc _ HB2.out.size) (fun q hq => (HO2.out.lt q hq).1)
              have HO6 : Hid (w6.ownsRow w0.heap.size 9 1 v6 (6 + 2 * (j + 1)) (strV (headParts r ++ (r.names.take (j + 1)).flatMap nmP))) := Lib.hid (by
                rw [List.take_succ_eq_append_getElem hlt, HX.out, List.flatMap_append, List.flatMap_singleton, ← List.append_assoc, strV_append]
                exact hown6)
              clear hown6 hg6 HO2 HB2 HX
              go_wp2_with fail
              go_roundw
              case rel => exact ⟨j + 1, by omega, by go_num, HB6, HO6⟩
              case measure => simp [intOf]; omega
            · have hja : j = r.names.length := by omega
              have HO2 : Hid (wr.ownsRow w0.heap.size 9 1 u5 (6 + 2 * r.names.length) (strV (headParts r ++ r.names.flatMap nmP))) := Lib.hid (by have := HOr.out; rw [hja, List.take_length] at this; exact this)
              have q6 : wr.cell? ⟨g, 6, none⟩ = some (.slice A r.recs.length c) := (HT0.out.below HBr.out HT0.out.lt).cell 6
              have hrl : r.recs.length ≤ 2147483647 := Nat.le_trans (lenR_ge _) HRN.out
              clear hja HOr c7 q7
              go_wp2_with fail
              obtain ⟨wo, rfl⟩ : ∃ wo : World, wo = wr := ⟨_, rfl⟩
              have HBo := HBr
              clear HBr q6 hlt
              go_loopw [5, 61] (fun s5 i wr => ∃ (j : Nat), j ≤ r.recs.length ∧ i = .int .i64 j ∧ Hid (Below w0.heap.size w0 wr) ∧ Hid (wr.ownsRow w0.heap.size 9 1 s5 (6 + 2 * r.names.length + 7 * j) (strV (headParts r ++ r.names.flatMap nmP ++ (r.recs.take j).flatMap recParts)))) (fun _ i _ => r.recs.length - (intOf i).toNat)
              case atStart => exact ⟨0, Nat.zero_le _, rfl, HBo, by rw [List.take_zero, List.flatMap_nil, List.append_nil]; exact HO2⟩
              case round =>
                obtain ⟨j, hj, rfl, HBr, HOr⟩ := hrel
                have qq6 : wr.cell? ⟨g, 6, none⟩ = some (.slice A r.recs.length c) := (HT0.out.below HBr.out HT0.out.lt).cell 6
                by_cases hlt : j < r.recs.length
                · obtain ⟨b, off, rfl, hb, hcl⟩ := HRC.out (by intro e; rw [e] at hlt; simp at hlt)
                  have hBall : Below w.heap.size w wr := HBw.out.trans (HBr.out.mono HBw.out.size)
                  obtain ⟨x, hx⟩ : ∃ x, r.recs[j] = x := ⟨_, rfl⟩
                  have hmem : x ∈ r.recs := by rw [← hx]; exact List.getElem_mem hlt
                  have RS : Hid (∀ (i : Nat) (v : Value), (recL x)[i]? = some v → wr.cell? ((⟨b, off + j * 7, none⟩ : Addr).add i) = some v) := Lib.hid (fun i v h => by
                    rw [add_flat]
                    exact (hBall.cell (p := ⟨b, off + j * 7 + i, none⟩) hb).trans (hcl j x (by rw [← hx]; exact List.getElem?_eq_getElem hlt) i v h))
                  have hok := HRK.out x hmem
                  have hxl := lenR_mem hmem
                  have hxk : x.key.length ≤ 2147483647 ∧ x.val.length ≤ 2147483647 := by have := HRN.out; omega
                  obtain ⟨hxk1, hxk2⟩ := hxk
                  obtain ⟨hk0, hk1, hk2, hk3, hk4⟩ := hok
                  have HX := Lib.hid hx
                  clear hcl hx hmem hb hBall hxl
                  have hadd0 : ∀ W, (Op.stringOp .add (⟨#[107, 105, 110, 100]⟩ : ByteArray) (S (itoa x.kind))).run Tryz.prog W = .ok (.string (S (107 :: 105 :: 110 :: 100 :: itoa x.kind))) W := fun W => S_add [107, 105, 110, 100] _ (by have := itoa_len hk0.1 hk0.2; simp only [List.length_cons, List.length_nil]; omega) W
                  go_wp2_with (first
                    | ((with_reducible refine at_op ⟨_, .load 69 (.tmp 63), _, _, _, _⟩ ?_); refine wpList_load_list rfl 69 (.tmp 63) rfl ⟨b, off + j * 7, none⟩ rfl (recL x) RS.out _ Tryz.underlying69 rfl (by kernel_rfl) ?_)
                    | ((with_reducible refine at_op ⟨_, .store 69 (.tmp 9) (.tmp 64), _, _, _, _⟩ ?_); refine wpList_store_blk rfl 69 (.tmp 9) (.tmp 64) rfl wr.heap.size 0 rfl (recL x) rfl (recL_one x) 69 rec0 (Blk.new wr 69 rec0) (show 0 + 7 ≤ 7 from Nat.le_refl 7) (by kernel_rfl) ?_; intro w2 hT2 hg2 hs2; have q0 : w2.cell? ⟨wr.heap.size, 0, none⟩ = some (.int .i64 x.kind) := (hT2.cell 0).trans (put_rec x 0 _ rfl); have HT2 := Lib.hid hT2; have HG2 := Lib.hid hg2; clear hT2 hg2 hs2)
                    | fail)
                  have HB2 : Hid (Below w0.heap.size w0 w2) := below_gb (HBr.out.alloc HBr.out.size _) HG2.out (le_alloc _ HBr.out.size) HBr.out.size
                  have HO3 : Hid (w2.ownsRow w0.heap.size 9 1 _ _ _) := Lib.hid ((HOr.out.alloc _).kept HG2.out (Or.inr (by intro e; have := (HOr.out.lt _ e).2; omega)))
                  have HTAB2 : Hid (Tab w2) := Lib.hid (tab_below HTAB.out HB2.out)
                  refine (number_any x.kind hk0.1 hk0.2 w2 HTAB2.out).mono ?_
                  rintro e w3 ⟨rfl, hb3⟩
                  have HT3 := Lib.hid (HT2.out.below hb3 HT2.out.lt)
                  have HB3 : Hid (Below w0.heap.size w0 w3) := HB2.out.trans (hb3.mono HB2.out.size)
                  have HO4 := Lib.hid (own_keep HO3.out hb3)
                  have HTAB3 : Hid (Tab w3) := Lib.hid (tab_below HTAB2.out hb3)
                  have q0' : w3.cell? ⟨wr.heap.size, 0, none⟩ = some (.int .i64 x.kind) := (HT3.out.cell 0).trans (put_rec x 0 _ rfl)
                  clear hb3 HB2 HT2 HG2 RS q0 HTAB2 HO3 HOr
                  obtain ⟨kd, hkd⟩ : ∃ y : Bs, y = kindL x.kind := ⟨_, rfl⟩
                  have KD := Lib.hid hkd
                  clear hkd
                  simp only []
                  repeat ((fail_if_success (with_reducible refine at_seq ?_)); first | go_step | go_upon)
                  go_step
                  go_cut [10] (fun s10 wx => s10 = .string (S kd) ∧ w3 = wx)
                  case first =>
                    cases hb1 : (x.kind == 1) with
                    | true =>
                      have hkd : S [118, 97, 108, 117, 101] = S kd := by rw [KD.out]; unfold kindL; rw [if_pos (by simpa using hb1)]
                      go_wp2_with fail
                      go_meet
                      exact ⟨congrArg Value.string hkd, rfl⟩
                    | false =>
                      have h1 : x.kind ≠ 1 := by simpa using hb1
                      cases hb2 : (x.kind == 2) with
                      | true =>
                        have hkd : S [116, 111, 109, 98, 115, 116, 111, 110, 101] = S kd := by
                          have e : x.kind = 2 := by simpa using hb2
                          rw [KD.out, e]; rfl
                        clear h1
                        go_wp2_with fail
                        go_meet
                        exact ⟨congrArg Value.string hkd, rfl⟩
                      | false =>
                        have hkd : S (107 :: 105 :: 110 :: 100 :: itoa x.kind) = S kd := by
                          have e : x.kind ≠ 2 := by simpa using hb2
                          rw [KD.out]
                          unfold kindL
                          rw [if_neg h1, if_neg e]
                        clear h1
                        go_wp2_with fail
                        go_meet
                        exact ⟨congrArg Value.string hkd, rfl⟩
                  case rest =>
                      obtain ⟨rfl, hwc3⟩ := hcut
                      subst hwc3
                      clear hadd0
                      have k1 := cell_regrown (show w3.cell? ⟨wr.heap.size, 1, none⟩ = some (.int .i64 x.off) from (HT3.out.cell 1).trans (put_rec x 1 _ rfl))
                      have k2 := cell_regrown (show w3.cell? ⟨wr.heap.size, 2, none⟩ = some (.int .i64 x.time) from (HT3.out.cell 2).trans (put_rec x 2 _ rfl))
                      have k3 := cell_regrown (show w3.cell? ⟨wr.heap.size, 3, none⟩ = some (.int .i64 x.pid) from (HT3.out.cell 3).trans (put_rec x 3 _ rfl))
                      have k4 := cell_regrown (show w3.cell? ⟨wr.heap.size, 4, none⟩ = some (.int .i64 x.seq) from (HT3.out.cell 4).trans (put_rec x 4 _ rfl))
                      have k5 := cell_regrown (show w3.cell? ⟨wr.heap.size, 5, none⟩ = some (.string (S x.key)) from (HT3.out.cell 5).trans (put_rec x 5 _ rfl))
                      have k6 := cell_regrown (show w3.cell? ⟨wr.heap.size, 6, none⟩ = some (.string (S x.val)) from (HT3.out.cell 6).trans (put_rec x 6 _ rfl))
                      have q1 : ∀ d os, Calls Tryz.prog 33 #[.int .i64 x.off] (Sort.grow (redrawn w3 d) os) fun e w'' => e = .returned (.string (S (itoa x.off))) ∧ ∃ p : Regrown, w'' = Sort.grow (redrawn w3 p.d) p.os := fun d os => Calls.regrown_of (number_any x.off hk1.1 hk1.2 _ (tab_below HTAB3.out (below_regrown w3 d os)))
                      have q2 : ∀ d os, Calls Tryz.prog 33 #[.int .i64 x.time] (Sort.grow (redrawn w3 d) os) fun e w'' => e = .returned (.string (S (itoa x.time))) ∧ ∃ p : Regrown, w'' = Sort.grow (redrawn w3 p.d) p.os := fun d os => Calls.regrown_of (number_any x.time hk2.1 hk2.2 _ (tab_below HTAB3.out (below_regrown w3 d os)))
                      have q3 : ∀ d os, Calls Tryz.prog 33 #[.int .i64 x.pid] (Sort.grow (redrawn w3 d) os) fun e w'' => e = .returned (.string (S (itoa x.pid))) ∧ ∃ p : Regrown, w'' = Sort.grow (redrawn w3 p.d) p.os := fun d os => Calls.regrown_of (number_any x.pid hk3.1 hk3.2 _ (tab_below HTAB3.out (below_regrown w3 d os)))
                      have q4 : ∀ d os, Calls Tryz.prog 33 #[.int .i64 x.seq] (Sort.grow (redrawn w3 d) os) fun e w'' => e = .returned (.string (S (itoa x.seq))) ∧ ∃ p : Regrown, w'' = Sort.grow (redrawn w3 p.d) p.os := fun d os => Calls.regrown_of (number_any x.seq hk4.1 hk4.2 _ (tab_below HTAB3.out (below_regrown w3 d os)))
                      have q5 : ∀ d os, Calls Tryz.prog 35 #[.string (S x.key)] (Sort.grow (redrawn w3 d) os) fun e w'' => e = .returned (.string (S (textL x.key))) ∧ ∃ p : Regrown, w'' = Sort.grow (redrawn w3 p.d) p.os := fun d os => Calls.regrown_of (text_any x.key (by omega) _)
                      have q6 : ∀ d os, Calls Tryz.prog 35 #[.string (S x.val)] (Sort.grow (redrawn w3 d) os) fun e w'' => e = .returned (.string (S (textL x.val))) ∧ ∃ p : Regrown, w'' = Sort.grow (redrawn w3 p.d) p.os := fun d os => Calls.regrown_of (text_any x.val (by omega) _)
                      obtain ⟨z1, hz1⟩ : ∃ y : Bs, itoa x.off = y := ⟨_, rfl⟩
                      obtain ⟨z2, hz2⟩ : ∃ y : Bs, itoa x.time = y := ⟨_, rfl⟩
                      obtain ⟨z3, hz3⟩ : ∃ y : Bs, itoa x.pid = y := ⟨_, rfl⟩
                      obtain ⟨z4, hz4⟩ : ∃ y : Bs, itoa x.seq = y := ⟨_, rfl⟩
                      obtain ⟨z5, hz5⟩ : ∃ y : Bs, textL x.key = y := ⟨_, rfl⟩
                      obtain ⟨z6, hz6⟩ : ∃ y : Bs, textL x.val = y := ⟨_, rfl⟩
                      have HRP : Hid (recParts x = [kd, z1, z2, z3, z4, z5, z6]) := Lib.hid (by unfold recParts; rw [hz1, hz2, hz3, hz4, hz5, hz6, KD.out])
                      rw [hz1] at q1
                      rw [hz2] at q2
                      rw [hz3] at q3
                      rw [hz4] at q4
                      rw [hz5] at q5
                      rw [hz6] at q6
                      clear hz1 hz2 hz3 hz4 hz5 hz6 KD q0' hxk1 hxk2 hk0 hk1 hk2 hk3 hk4
                      go_upto_region 22 with fail
                      refine wp_quiet_tail1 20 (by kernel_rfl) (by kernel_rfl) (by kernel_rfl) (by kernel_rfl) (by kernel_rfl) u5 (Or.inl ⟨by rfl, fun _ => rfl⟩) (fun _ _ _ h => h) ?_
                      simp only [List.take_succ_cons, List.take_zero, List.drop_succ_cons, List.drop_zero, Act.put, List.setIfInBounds_toArray, List.set_cons_succ, List.set_cons_zero]
                      repeat (first | go_big_quiet_skip | (go_big_quiet_want; go_big_quiet_op; first | go_big_quiet_on | (apply Exists.intro; refine ⟨fun _ => ?_, ?_⟩; · (first | with_reducible exact q1 _ _ | with_reducible exact q2 _ _ | with_reducible exact q3 _ _ | with_reducible exact q4 _ _ | with_reducible exact q5 _ _ | with_reducible exact q6 _ _)); go_big_quiet_on))
                      refine wpQuiet_nil ?_
                      intro wq hw'
                      obtain ⟨⟨dq, osq⟩, hw''⟩ := hw'
                      have hbq : Below w3.heap.size w3 wq := by rw [hw'']; exact below_regrown w3 dq osq
                      have HBq : Hid (Below w0.heap.size w0 wq) := HB3.out.trans (hbq.mono HB3.out.size)
                      have HOq := Lib.hid (own_keep HO4.out hbq)
                      clear hw'' hbq k1 k2 k3 k4 k5 k6 q1 q2 q3 q4 q5 q6 HB3 HO4 HT3 HTAB3
                      go_step
                      go_step
                      go_step
                      refine wpList_append_own (wq.alloc (.cells #[.string (S kd), .string (S z1), .string (S z2), .string (S z3), .string (S z4), .string (S z5), .string (S z6)] 9)) rfl (.tmp 75) (.tmp 95) 43 rfl w0.heap.size 9 i0 _ 1 16 Tryz.underlying43 hi0 hz0 hz1 hz2 rfl (by decide) _ (6 + 2 * r.names.length + 7 * j) _ rfl (HOq.out.alloc _) ⟨wq.heap.size, 0, none⟩ 7 7 (strV [kd, z1, z2, z3, z4, z5, z6]) rfl rfl (built_cells wq _ _ _ rfl) (strV_one _) (le_maxLen (by omega)) (by omega) (le_alloc _ HBq.out.size) ?_
                      intro v6 w6 hown6 hg6 _
                      have HB6 : Hid (Below w0.heap.size w0 w6) := (HBq.out.alloc HBq.out.size _).grown hg6 (le_alloc _ HBq.out.size) (fun q hq => (HOq.out.lt q hq).1)
                      have HO6 : Hid (w6.ownsRow w0.heap.size 9 1 v6 (6 + 2 * r.names.length + 7 * (j + 1)) (strV (headParts r ++ r.names.flatMap nmP ++ (r.recs.take (j + 1)).flatMap recParts))) := Lib.hid (by
                        rw [List.take_succ_eq_append_getElem hlt, HX.out, List.flatMap_append, List.flatMap_singleton, ← List.append_assoc, strV_append, HRP.out]
                        exact hown6)
                      clear hown6 hg6 HOq HBq HX HRP
                      go_wp2_with fail
                      go_roundw
                      case rel => exact ⟨j + 1, by omega, by go_num, HB6, HO6⟩
                      case measure => simp [intOf]; omega
                · have hjr : j = r.recs.length := by omega
                  have hnn : 6 + 2 * r.names.length + 7 * j = (showParts r).length := by
                    rw [hjr, ← nmP_len, ← rpP_len]
                    unfold showParts
                    rw [List.length_append, List.length_append]
                    show _ = (headParts r).length + ((r.names.flatMap nmP).length + _)
                    simp only [headParts, List.length_cons, List.length_nil]
                    omega
                  have hLL : headParts r ++ r.names.flatMap nmP ++ (r.recs.take j).flatMap recParts = showParts r := by
                    rw [hjr, List.take_length, List.append_assoc]; rfl
                  have HOF : Hid (wr.ownsRow w0.heap.size 9 1 u5 (showParts r).length (strV (showParts r))) := Lib.hid (by have := HOr.out; rw [hLL, hnn] at this; exact this)
                  have hpl : (showParts r).length ≤ 140737488355328 := by rw [← hnn]; omega
                  have hp0 : 0 < (showParts r).length := by rw [← hnn]; omega
                  obtain ⟨g5, cap5, rfl, -, hg5, hcap5, hcells⟩ := own_read HOF.out hp0
                  have HCE := Lib.hid hcells
                  have HBF : Hid (Below w.heap.size w wr) := HBw.out.trans (HBr.out.mono HBw.out.size)
                  clear hcells HOF HOr hLL hnn hjr qq6
                  go_wp2_with fail
                  refine (joinS (showParts r) g5 cap5 wr HCE.out hg5 hcap5 hpl HSL.out).mono ?_
                  rintro e w5 ⟨rfl, hb5⟩
                  have HB5 : Hid (Below w.heap.size w w5) := HBF.out.trans (hb5.mono HBF.out.size)
                  clear hb5
                  go_wp2_with fail
                  go_ret
                  exact ⟨ret_str rfl, HB5.out⟩
end Go.Proofs.YtepalbldleegiaaGreatDoor.sh
