/-
  What stands behind the word 'say': walked.
  Conditions: numbers as their types have them; the operation is one of the fifteen; the table of powers of ten is as it was laid.
-/
import Derived.Test.YtepalbldleegiaaGreatDoorSzc
import Derived.Test.YtepalbldleegiaaGreatDoorSze
namespace Go.Proofs.YtepalbldleegiaaGreatDoor.sh
open Go.RowKit
open Go.Lib (itoa decDigits byteCells)

set_option maxHeartbeats 2000000 in
theorem field_any (f : Fd) (r : Req) (w : World) (ht : Tab w) (hn : I64 r.off ∧ I64 r.num ∧ I64 r.pid ∧ I64 r.seq) (hl : r.topic.length ≤ 1048576 ∧ r.key.length ≤ 1048576 ∧ r.value.length ≤ 1048576) :
    Calls Tryz.prog (fdW f) #[.agg (reqA r)] w fun e w' => e = .returned (.string (S (writeF r f))) ∧ Below w.heap.size w w' := by
  have HB0 : Hid (Below w.heap.size w (w.alloc (.cells (reqA r) 24))) := (Below.refl _ _).alloc (Nat.le_refl _) _
  have HT := Lib.hid ht
  clear ht
  unfold reqA at HB0 ⊢
  obtain ⟨l1, l2, l3⟩ := hl
  obtain ⟨n1, n2, n3, n4⟩ := hn
  cases f with
  | T =>
    show Calls Tryz.prog 90 _ _ _
    go_enter Tryz.func90, Tryz.ntmps90
    go_wp2_with fail
    refine (text_any r.topic (by omega) _).mono ?_
    rintro e w1 ⟨rfl, hb1⟩
    have HB1 : Hid (Below w.heap.size w w1) := HB0.out.trans (hb1.mono HB0.out.size)
    clear hb1
    go_wp2_with fail
    go_ret
    exact ⟨rfl, HB1.out⟩
  | K =>
    show Calls Tryz.prog 93 _ _ _
    go_enter Tryz.func93, Tryz.ntmps93
    go_wp2_with fail
    refine (text_any r.key (by omega) _).mono ?_
    rintro e w1 ⟨rfl, hb1⟩
    have HB1 : Hid (Below w.heap.size w w1) := HB0.out.trans (hb1.mono HB0.out.size)
    clear hb1
    go_wp2_with fail
    go_ret
    exact ⟨rfl, HB1.out⟩
  | V =>
    show Calls Tryz.prog 95 _ _ _
    go_enter Tryz.func95, Tryz.ntmps95
    go_wp2_with fail
    refine (text_any r.value (by omega) _).mono ?_
    rintro e w1 ⟨rfl, hb1⟩
    have HB1 : Hid (Below w.heap.size w w1) := HB0.out.trans (hb1.mono HB0.out.size)
    clear hb1
    go_wp2_with fail
    go_ret
    exact ⟨rfl, HB1.out⟩
  | O =>
    show Calls Tryz.prog 97 _ _ _
    go_enter Tryz.func97, Tryz.ntmps97
    go_wp2_with fail
    refine (number_any r.off n1.1 n1.2 _ (tab_below HT.out HB0.out)).mono ?_
    rintro e w1 ⟨rfl, hb1⟩
    have HB1 : Hid (Below w.heap.size w w1) := HB0.out.trans (hb1.mono HB0.out.size)
    clear hb1
    go_wp2_with fail
    go_ret
    exact ⟨rfl, HB1.out⟩
  | N =>
    show Calls Tryz.prog 99 _ _ _
    go_enter Tryz.func99, Tryz.ntmps99
    go_wp2_with fail
    refine (number_any r.num n2.1 n2.2 _ (tab_below HT.out HB0.out)).mono ?_
    rintro e w1 ⟨rfl, hb1⟩
    have HB1 : Hid (Below w.heap.size w w1) := HB0.out.trans (hb1.mono HB0.out.size)
    clear hb1
    go_wp2_with fail
    go_ret
    exact ⟨rfl, HB1.out⟩
  | P =>
    show Calls Tryz.prog 101 _ _ _
    go_enter Tryz.func101, Tryz.ntmps101
    go_wp2_with fail
    refine (number_any r.pid n3.1 n3.2 _ (tab_below HT.out HB0.out)).mono ?_
    rintro e w1 ⟨rfl, hb1⟩
    have HB1 : Hid (Below w.heap.size w w1) := HB0.out.trans (hb1.mono HB0.out.size)
    clear hb1
    go_wp2_with fail
    go_ret
    exact ⟨rfl, HB1.out⟩
  | S =>
    show Calls Tryz.prog 103 _ _ _
    go_enter Tryz.func103, Tryz.ntmps103
    go_wp2_with fail
    refine (number_any r.seq n4.1 n4.2 _ (tab_below HT.out HB0.out)).mono ?_
    rintro e w1 ⟨rfl, hb1⟩
    have HB1 : Hid (Below w.heap.size w w1) := HB0.out.trans (hb1.mono HB0.out.size)
    clear hb1
    go_wp2_with fail
    go_ret
    exact ⟨rfl, HB1.out⟩

set_option maxRecDepth 100000 in
set_option maxHeartbeats 8000000 in
theorem said_any (c : Cmd) (sR sP : Value) (w : World) (ht : Tab w) (hI : cmdI c) (ho : 1 ≤ c.req.op ∧ c.req.op ≤ 15) : Calls Tryz.prog 40 #[.agg (cmdC c sR sP)] w (WrPost w (itoa c.conn :: itoa c.req.id :: opL c.req.op :: (fieldsOf c.req.op).map (writeF c.req))) := by
  obtain ⟨i0, hi0, hz0, hz1, hz2⟩ := info_parts infoStr
  have hb0 : Below w.heap.size w (w.alloc (.cells (cmdC c sR sP) 28)) := (Below.refl _ _).alloc (Nat.le_refl _) _
  have hT0 := Blk.new w 28 (cmdC c sR sP)
  have HB0 := Lib.hid hb0
  have HT0 := Lib.hid hT0
  have HT := Lib.hid ht
  have HI := Lib.hid hI
  clear hb0 ht hT0
  have hcn := hI.2.1
  have hid := hI.2.2.2.2.2.1
  have hopI := hI.2.2.2.1
  clear hI
  obtain ⟨ho0, ho1⟩ := ho
  unfold cmdC at HB0 HT0 ⊢
  go_enter Tryz.func40, Tryz.ntmps40
  go_upto_region 1 with fail
  generalize hw0 : w.alloc _ = w0 at HB0 HT0 ⊢
  have HTB : Hid (Tab w0) := tab_below HT.out HB0.out
  clear hw0
  have k0 : ∀ w', Below w0.heap.size w0 w' → w'.cell? ⟨w.heap.size, 0, none⟩ = some (.int .i64 c.verb) := fun w' hb => (HT0.out.below hb HT0.out.lt).cell 0
  have k1 : ∀ w', Below w0.heap.size w0 w' → w'.cell? ⟨w.heap.size, 1, none⟩ = some (.int .i64 c.conn) := fun w' hb => (HT0.out.below hb HT0.out.lt).cell 1
  have k2 : ∀ w', Below w0.heap.size w0 w' → w'.cell? ⟨w.heap.size, 2, none⟩ = some (.int .u32 c.req.id) := fun w' hb => (HT0.out.below hb HT0.out.lt).cell 2
  have k3 : ∀ w', Below w0.heap.size w0 w' → w'.cell? ⟨w.heap.size, 3, none⟩ = some (.int .i64 c.req.op) := fun w' hb => (HT0.out.below hb HT0.out.lt).cell 3
  have k4 : ∀ w', Below w0.heap.size w0 w' → w'.cell? ⟨w.heap.size, 4, none⟩ = some (.string (S c.req.topic)) := fun w' hb => (HT0.out.below hb HT0.out.lt).cell 4
  have k5 : ∀ w', Below w0.heap.size w0 w' → w'.cell? ⟨w.heap.size, 5, none⟩ = some (.string (S c.req.key)) := fun w' hb => (HT0.out.below hb HT0.out.lt).cell 5
  have k6 : ∀ w', Below w0.heap.size w0 w' → w'.cell? ⟨w.heap.size, 6, none⟩ = some (.string (S c.req.value)) := fun w' hb => (HT0.out.below hb HT0.out.lt).cell 6
  have k7 : ∀ w', Below w0.heap.size w0 w' → w'.cell? ⟨w.heap.size, 7, none⟩ = some (.int .i64 c.req.off) := fun w' hb => (HT0.out.below hb HT0.out.lt).cell 7
  have k8 : ∀ w', Below w0.heap.size w0 w' → w'.cell? ⟨w.heap.size, 8, none⟩ = some (.int .i64 c.req.num) := fun w' hb => (HT0.out.below hb HT0.out.lt).cell 8
  have k9 : ∀ w', Below w0.heap.size w0 w' → w'.cell? ⟨w.heap.size, 9, none⟩ = some (.int .i64 c.req.pid) := fun w' hb => (HT0.out.below hb HT0.out.lt).cell 9
  have k10 : ∀ w', Below w0.heap.size w0 w' → w'.cell? ⟨w.heap.size, 10, none⟩ = some (.int .i64 c.req.seq) := fun w' hb => (HT0.out.below hb HT0.out.lt).cell 10
  have k11 : ∀ w', Below w0.heap.size w0 w' → w'.cell? ⟨w.heap.size, 11, none⟩ = some (sR) := fun w' hb => (HT0.out.below hb HT0.out.lt).cell 11
  have k12 : ∀ w', Below w0.heap.size w0 w' → w'.cell? ⟨w.heap.size, 12, none⟩ = some (.int .i64 c.n) := fun w' hb => (HT0.out.below hb HT0.out.lt).cell 12
  have k13 : ∀ w', Below w0.heap.size w0 w' → w'.cell? ⟨w.heap.size, 13, none⟩ = some (sP) := fun w' hb => (HT0.out.below hb HT0.out.lt).cell 13
  have hwr : IntKind.i64.wrap c.req.id = c.req.id := by
    simp [IntKind.wrap, IntKind.signed, IntKind.bits]
    omega
  obtain ⟨x1, hx1⟩ : ∃ y : Bs, itoa c.conn = y := ⟨_, rfl⟩
  obtain ⟨x2, hx2⟩ : ∃ y : Bs, itoa c.req.id = y := ⟨_, rfl⟩
  obtain ⟨x3, hx3⟩ : ∃ y : Bs, opL c.req.op = y := ⟨_, rfl⟩
  have X1 := Lib.hid hx1
  have X2 := Lib.hid hx2
  have X3 := Lib.hid hx3
  clear hx1 hx2 hx3
  go_cut [3] (fun s3 wx => Hid (Below w0.heap.size w0 wx) ∧ Hid (wx.ownsRow w0.heap.size 9 1 s3 3 (strV [x1, x2, x3])))
  case first =>
    go_region_held3 (fun w' => Below w0.heap.size w0 w') (first | assumption | exact (Below.refl _ _).drew | exact HK3.alloc HK3.size _)
      (first
        | (go_at_call 36; refine (label_any c sR sP _ (tab_below HTB.out (Below.refl _ _).drew) hcn).mono ?_; rintro e w1 ⟨v1, rfl, ho1, hb1⟩; have HK1 : Below w0.heap.size w0 w1 := ((Below.refl _ _).drew).trans (hb1.mono (Nat.le_refl _)); have HO1 : Hid (w1.ownsRow w0.heap.size 9 1 v1 1 (strV [x1])) := (by rw [← X1.out]; exact ho1); clear hb1 ho1)
        | (go_at_call 33; refine (number_any c.req.id (by omega) (by omega) _ (tab_below HTB.out HK1)).mono ?_; rintro e w2 ⟨rfl, hb2⟩; rw [X2.out]; have HK2 : Below w0.heap.size w0 w2 := HK1.trans (hb2.mono HK1.size); have HO2 : Hid (w2.ownsRow w0.heap.size 9 1 v1 1 (strV [x1])) := own_keep HO1.out hb2; clear hb2)
        | (go_at_call 34; refine (operation_any c.req.op hopI.1 hopI.2 _ (tab_below HTB.out HK2)).mono ?_; rintro e w3 ⟨rfl, hb3⟩; rw [X3.out]; have HK3 : Below w0.heap.size w0 w3 := HK2.trans (hb3.mono HK2.size); have HO3 : Hid (w3.ownsRow w0.heap.size 9 1 v1 1 (strV [x1])) := own_keep HO2.out hb3; clear hb3)
        | (refine step_append_own rfl (.tmp 7) (.tmp 17) 43 rfl w0.heap.size 9 i0 _ 1 16 Tryz.underlying43 hi0 hz0 hz1 hz2 rfl (by decide) v1 1 _ rfl (HO3.out.alloc _) ⟨w3.heap.size, 0, none⟩ 2 2 (strV [x2, x3]) rfl rfl (built_cells w3 _ _ _ rfl) (strV_one _) (le_maxLen (by omega)) (by omega) (le_alloc _ HK3.size) ?_; intro v6 w6 hown6 hg6; have HK6 : Below w0.heap.size w0 w6 := (HK3.alloc HK3.size _).grown hg6 (le_alloc _ HK3.size) (fun q hq => (HO3.out.lt q hq).1); have HO6 : Hid (w6.ownsRow w0.heap.size 9 1 v6 3 (strV [x1, x2, x3])) := hown6; clear hown6 hg6)
        | fail)
    go_wp2_with fail
    go_meet
    exact ⟨HK6, HO6⟩
  case rest =>
    obtain ⟨HBc, HOc⟩ := hcut
    obtain ⟨opn, hopn⟩ : ∃ n : Nat, c.req.op = (n : Int) := ⟨c.req.op.toNat, by omega⟩
    have kop : ∀ w', Below w0.heap.size w0 w' → w'.cell? ⟨w.heap.size, 3, none⟩ = some (.int .i64 opn) := fun w' hb => by rw [← hopn]; exact k3 w' hb
    have HBF : Hid (fieldsOf c.req.op = fieldsN opn) := by unfold fieldsOf; rw [hopn]; exact rfl
    have hopl : opn < 16 := by omega
    have HCX : Hid (Below w0.heap.size w0 wc) := HBc
    clear hwr k0 k1 k2 k3 k4 k5 k6 k7 k8 k9 k10 k11 k12 k13 ho0 ho1 hopI hid hcn hopn
    obtain ⟨fl, hfl⟩ : ∃ l, fieldsN opn = l := ⟨_, rfl⟩
    go_upto_region 2 with fail
    go_cut [25, 26, 27] (fun s25 s26 s27 wx => ∃ F, s25 = .slice F fl.length fl.length ∧ s26 = .int .i64 fl.length ∧ s27 = .int .i64 0 ∧ Hid (Below w0.heap.size w0 wx) ∧ Hid (wx.ownsRow w0.heap.size 9 1 u3 3 (strV [x1, x2, x3])) ∧ Hid (FldOK wx F fl))
    case first =>
      have hbc := HBc.out
      have qop : wc.cell? ⟨w.heap.size, 3, none⟩ = some (.int .i64 opn) := kop wc hbc
      have hopi : (opn : Int) < 16 := by omega
      go_region_with (first | (go_at_call 74; refine (operations_full _).mono ?_; rintro e w4 ⟨g, rfl, hg, hall, hb4⟩; have HK4 : Hid (Below w0.heap.size w0 w4) := hbc.drew.trans (hb4.mono hbc.size); have HO4 : Hid (w4.ownsRow w0.heap.size 9 1 u3 3 (strV [x1, x2, x3])) := own_keep (w := wc.drew) HOc.out hb4; have qop4 : w4.cell? ⟨w.heap.size, 3, none⟩ = some (.int .i64 opn) := kop w4 HK4.out; obtain ⟨F, hF, hF2⟩ := (hall opn hopl).2; rw [hfl] at hF hF2; have HF2 : Hid (FldOK w4 F fl) := hF2; clear hall hb4 hF2) | fail)
      all_goals
        go_wp2_with fail
        go_meet
        exact ⟨F, rfl, rfl, rfl, HK4, HO4, HF2⟩
    case rest =>
      obtain ⟨F, rfl, rfl, rfl, HBd, HOd, HFd⟩ := hcut
      have hll : fl.length ≤ 5 := by rw [← hfl]; unfold fieldsN; split <;> decide
      have HFL := Lib.hid hfl
      clear kop hfl HBc HOc HCX
      go_wp2_with fail
      go_loopw [3, 27] (fun s3 i wr => ∃ (j : Nat), j ≤ fl.length ∧ i = .int .i64 j ∧ Hid (Below w0.heap.size w0 wr) ∧ Hid (FldOK wr F fl) ∧ Hid (wr.ownsRow w0.heap.size 9 1 s3 (3 + j) (strV ([x1, x2, x3] ++ (fl.take j).map (writeF c.req))))) (fun _ i _ => fl.length - (intOf i).toNat)
      case atStart => exact ⟨0, Nat.zero_le _, rfl, HBd, HFd, by rw [List.take_zero, List.map_nil, List.append_nil]; exact HOd⟩
      case round =>
        obtain ⟨j, hj, rfl, HBr, HFr, HOr⟩ := hrel
        by_cases hlt : j < fl.length
        · obtain ⟨b, cs, rfl, hB, hcl⟩ := HFr.out (by intro e; rw [e] at hlt; simp at hlt)
          obtain ⟨fd, hfd⟩ : ∃ x, fl[j] = x := ⟨_, rfl⟩
          have RS : Hid (∀ (k : Nat) (v : Value), (fnL (fdW fd) (fdR fd))[k]? = some v → wr.cell? ((⟨b, j * 2, none⟩ : Addr).add k) = some v) := Lib.hid (fun k v h => by
            rw [add_flat, hB.cell]
            exact hcl j fd (by rw [← hfd]; exact List.getElem?_eq_getElem hlt) k v h)
          have HX := Lib.hid hfd
          have HTr : Hid (Blk wr w.heap.size 28 (cmdC c sR sP)) := HT0.out.below HBr.out HT0.out.lt
          clear hcl hB hfd
          go_upto_region 5 with (first
            | ((with_reducible refine at_op ⟨_, .load 104 (.tmp 29), _, _, _, _⟩ ?_); refine wpList_load_list rfl 104 (.tmp 29) rfl ⟨b, j * 2, none⟩ rfl (fnL (fdW fd) (fdR fd)) RS.out _ Tryz.underlying104 rfl (by kernel_rfl) ?_)
            | ((with_reducible refine at_op ⟨_, .store 104 (.tmp 5) (.tmp 30), _, _, _, _⟩ ?_); refine wpList_store_blk rfl 104 (.tmp 5) (.tmp 30) rfl wr.heap.size 0 rfl (fnL (fdW fd) (fdR fd)) rfl (fnL_one _ _) 104 #[.nilFunc, .nilFunc] (Blk.new wr 104 #[.nilFunc, .nilFunc]) (show 0 + 2 ≤ 2 from Nat.le_refl 2) (by kernel_rfl) ?_; intro w2 hT2 hg2 hs2; have HT2 := Lib.hid hT2; have HG2 := Lib.hid hg2; have HS2 := Lib.hid hs2; clear hT2 hg2 hs2)
            | fail)
          have hbb : Below wr.heap.size wr w2 := below_gb ((Below.refl _ _).alloc (Nat.le_refl _) _) HG2.out (le_alloc _ (Nat.le_refl _)) (Nat.le_refl _)
          have HB2 : Hid (Below w0.heap.size w0 w2) := HBr.out.trans (hbb.mono HBr.out.size)
          have HTw := Lib.hid (HTr.out.below hbb HTr.out.lt)
          have HO2 := Lib.hid (own_keep HOr.out hbb)
          have HF3 := Lib.hid (HFr.out.below hbb)
          have q0 : w2.cell? ⟨wr.heap.size, 0, none⟩ = some (.func (.func (fdW fd)) #[] #[]) := (HT2.out.cell 0).trans (by simp [putFrom, fnL])
          have HTBw : Hid (Tab w2) := tab_below HTB.out HB2.out
          clear hbb HT2 HG2 HS2 HTr HBr HOr RS HFr
          obtain ⟨hn4, hl1, hl2, hl3⟩ : (I64 c.req.off ∧ I64 c.req.num ∧ I64 c.req.pid ∧ I64 c.req.seq) ∧ c.req.topic.length ≤ 1048576 ∧ c.req.key.length ≤ 1048576 ∧ c.req.value.length ≤ 1048576 := ⟨HI.out.2.2.2.2.1, HI.out.2.2.2.2.2.2.2.1, HI.out.2.2.2.2.2.2.2.2.1, HI.out.2.2.2.2.2.2.2.2.2.1⟩
          have HFA := Lib.hid (field_any fd c.req w2 HTBw.out hn4 ⟨hl1, hl2, hl3⟩)
          obtain ⟨z, hz⟩ : ∃ z, writeF c.req fd = z := ⟨_, rfl⟩
          rw [hz] at HFA
          have HZ := Lib.hid hz
          have HL : Hid (strV ([x1, x2, x3] ++ (fl.take (j + 1)).map (writeF c.req)) = strV ([x1, x2, x3] ++ (fl.take j).map (writeF c.req)) ++ strV [z]) := Lib.hid (by
            rw [List.take_succ_eq_append_getElem hlt, HX.out, List.map_append, List.map_cons, List.map_nil, hz, ← List.append_assoc, strV_append])
          clear hz hn4 hl1 hl2 hl3 HX HZ
          cases fd
          all_goals
            simp only [fdW] at q0 HFA
            go_wp2_with (first
              | ((with_reducible refine at_op ⟨_, .load 24 (.tmp 34), _, _, _, _⟩ ?_); refine wpList_load_list rfl 24 (.tmp 34) rfl ⟨w.heap.size, 2, none⟩ rfl (reqC c.req) (req_load HTw.out) _ Tryz.underlying24 rfl (by kernel_rfl) ?_)
              | fail)
            refine HFA.out.mono ?_
            rintro e w3 ⟨rfl, hb3⟩
            have HB3 : Hid (Below w0.heap.size w0 w3) := HB2.out.trans (hb3.mono HB2.out.size)
            have HO3 := Lib.hid (own_keep HO2.out hb3)
            have HF4 : Hid (FldOK (w3.alloc (.cells #[.string (S z)] 9)) (some ⟨b, 0, none⟩) fl) := (HF3.out.below hb3).below ((Below.refl _ _).alloc (Nat.le_refl _) _)
            clear hb3 HO2 q0 HFA HF3
            simp only []
            go_step
            go_step
            go_step
            go_step
            refine wpList_append_own (w3.alloc (.cells #[.string (S z)] 9)) rfl (.tmp 31) (.tmp 37) 43 rfl w0.heap.size 9 i0 _ 1 16 Tryz.underlying43 hi0 hz0 hz1 hz2 rfl (by decide) _ (3 + j) _ rfl (HO3.out.alloc _) ⟨w3.heap.size, 0, none⟩ 1 1 (strV [z]) rfl rfl (built_cells w3 _ _ _ rfl) (strV_one _) (le_maxLen (by omega)) (by omega) (le_alloc _ HB3.out.size) ?_
            intro v6 w6 hown6 hg6 _
            have HB6 : Hid (Below w0.heap.size w0 w6) := (HB3.out.alloc HB3.out.size _).grown hg6 (le_alloc _ HB3.out.size) (fun q hq => (HO3.out.lt q hq).1)
            have HF6 : Hid (FldOK w6 (some ⟨b, 0, none⟩) fl) := HF4.out.grown (HO3.out.alloc _) hg6
            have HO6 : Hid (w6.ownsRow w0.heap.size 9 1 v6 (3 + (j + 1)) (strV ([x1, x2, x3] ++ (fl.take (j + 1)).map (writeF c.req)))) := Lib.hid (by rw [HL.out]; exact hown6)
            clear hown6 hg6 HO3 HB3 HF4 HL
            go_wp2_with fail
            go_roundw
            case rel => exact ⟨j + 1, by omega, by go_num, HB6, HF6, HO6⟩
            case measure => simp [intOf]; omega
        · have hja : j = fl.length := by omega
          have HO2 : Hid (wr.ownsRow w0.heap.size 9 1 u3 (itoa c.conn :: itoa c.req.id :: opL c.req.op :: (fieldsOf c.req.op).map (writeF c.req)).length (strV (itoa c.conn :: itoa c.req.id :: opL c.req.op :: (fieldsOf c.req.op).map (writeF c.req)))) := Lib.hid (by
            have := HOr.out
            rw [hja, List.take_length] at this
            rw [X1.out, X2.out, X3.out, HBF.out, HFL.out]
            have e : (x1 :: x2 :: x3 :: fl.map (writeF c.req)).length = 3 + fl.length := by simp only [List.length_cons, List.length_map]; omega
            rw [e]
            exact this)
          clear hja HOr
          go_wp2_with fail
          go_ret
          exact ⟨_, rfl, owns_base HO2.out HB0.out.size, HB0.out.trans (HBr.out.mono HB0.out.size)⟩
end Go.Proofs.YtepalbldleegiaaGreatDoor.sh
