/-
  Texts of the proof joined by a program: Tpb.
-/
import Derived.Test.YtendlmdmbkcdnaaGreatDoorVv
set_option linter.unusedSimpArgs false
set_option linter.unusedVariables false
namespace Go.Proofs.YtendlmdmbkcdnaaGreatDoor.tp
open Go.RowKit Go.Maps Go.WideMaps oc rc gh dk sg ma hi kd dd
open Go.Lib (hid)
set_option maxRecDepth 100000
abbrev PhA (t b10 : Nat) (cs rs : Array Value) : World -> Prop := fun W => Blk W t 110 cs /\ Blk W b10 47 rs
abbrev PhB (t b : Nat) (cs rs : Array Value) : World -> Prop := fun W => Blk W t 110 cs /\ Blk W b 35 rs
theorem TopAt.nd {w : World} {G : Gh} {τ t d : Nat} {X : TS} {q : Int} {fs : List Fil} {no L : Nat} (h : TopAt w G τ t d X q fs no L) : (fs.map (·.name)).Nodup := by
 obtain ⟨p, h⟩ := h
 obtain ⟨S, _, hk⟩ := h.dk
 exact hk.names
set_option maxHeartbeats 32000000 in
theorem append_any (w : World) (G : Gh) (τ t d : Nat) (X : TS) (q : Int) (fs : List Fil) (no L : Nat) (h : TopAt w G τ t d X q fs no L) (nw : Nat) (ky vl : ByteArray) (tb : Bool) (pid sq : Int) (hn : nw < 1125899906842624) (x : Fil) (l : List Fil) (HA : AppH X fs x l q no L) (r : Rc) (ck : Nat) (hr : r = (Wr.mk ky vl tb pid sq).rc ((X.en + X.wr.length : Nat) : Int) (ck : Int)) (hck : max X.clock nw = ck) :
    Calls Tryz.prog 13 #[.pointer (some ⟨t, 0, none⟩), .int .i64 (nw : Int), .agg #[.string ky, .string vl, .bool tb, .int .i64 pid, .int .i64 sq]] w (AppOut w G τ t d X q fs no L x l r ck) := by
  have HRQ := hid hr
  have HCKQ := hid hck
  have HCKB : Hid (ck < 1125899906842624) := hid (by have h1 := HA.clk; omega)
  clear hr hck
  obtain ⟨p, h⟩ := h
  obtain ⟨w1, hw1⟩ : ∃ y, w.alloc (.cells #[.string ky, .string vl, .bool tb, .int .i64 pid, .int .i64 sq] 35) = y := ⟨_, rfl⟩
  have HB1 : Hid (Below w.heap.size w w1) := by rw [<- hw1]; exact hid ((Below.refl _ _).alloc (Nat.le_refl _) _)
  have HW1 : Hid (Blk w1 w.heap.size 35 #[.string ky, .string vl, .bool tb, .int .i64 pid, .int .i64 sq]) := by rw [<- hw1]; exact hid (Blk.new w _ _)
  have HT1 := hid (h.below HB1.out)
  have c21 : w1.cell? ⟨t, 21, none⟩ = some (.bool false) := (HT1.out.top.cell 21).trans (by rw [<- h.egone]; rfl)
  have c17 : w1.cell? ⟨t, 17, none⟩ = some (.int .i64 (X.clock : Int)) := (HT1.out.top.cell 17).trans (by rw [<- h.eclock]; rfl)
  have hno : (decide ((0 : Int) <= (nw : Int)) && decide ((nw : Int) < 1125899906842624)) = true := by simp; omega
  have HIT := hid (isTime_any w1 nw)
  rw [hno] at HIT
  have HTV := hid h
  clear h hno
  go_enter Tryz.func13, Tryz.ntmps13
  go_wp2_with fail
  try rw [hw1]
  refine HIT.out.mono ?_
  rintro e w2 ⟨rfl, rfl⟩
  clear hw1 HIT
  have hmx : max (X.clock : Int) (nw : Int) = ((max X.clock nw : Nat) : Int) := by omega
  go_wp2_with (first
    | ((with_reducible refine at_op ⟨none, .store 2 (.tmp 40) (.tmp 38), _, _, _, _⟩ ?_); refine wpList_store_one rfl 2 (.tmp 40) (.tmp 38) rfl t 17 rfl (.int .i64 ((max X.clock nw : Nat) : Int)) rfl rfl rfl 110 _ HT1.out.top.1 (by simp [Tc.cells]) (by kernel_rfl) ?_; intro w3 hT3 hg3 hz3; clear hz3; have HT3 : Hid (Blk w3 t 110 (Tc.cells { p.c with clock := ((max X.clock nw : Nat) : Int) })) := hid hT3; have HX3 : Hid (Fx (CR (some (τ, .top))) G G w2 w3) := hid (Fx.grown hg3 HT1.out.top.2); clear hT3 hg3 c17 c21)
    | fail)
  have hck := HCKQ.out
  rw [hck] at HT3
  clear hmx hck
  have HXC : Hid (Fx (CT τ) G G w w3) := hid ((Fx.below HB1.out).trans (HX3.out.mono (ct_r _)))
  have HTC := hid (TopG.clock HT1.out ck HX3.out HT3.out)
  have HW3 : Hid (Blk w3 w.heap.size 35 #[.string ky, .string vl, .bool tb, .int .i64 pid, .int .i64 sq]) := hid (blk_keepH HW1.out (HX3.out.keep _ HW1.out.lt (by
    intro hc
    have h1 := (HTV.out.fin _ (Nat.le_refl _)).2
    rw [hc.2] at h1
    cases h1)))
  have hnx : nextN { p.c with clock := (ck : Int) } (waitsAt X.wpos X.wr) = ((X.en + X.wr.length : Nat) : Int) := next_is HTV.out HA.offs HA.en
  have HNX := hid hnx
  clear hnx
  refine (next_any w3 t { p.c with clock := (ck : Int) } (waitsAt X.wpos X.wr) HTC.out.top.1 (by rw [waits_len]; exact HTV.out.ewn) 0 HTC.out.waits.1 (by rw [waits_len]; have h1 := HA.en; omega)).mono ?_
  rintro e w4 ⟨rfl, hw4⟩
  rw [hw4, HNX.out]
  clear hw4
  obtain ⟨nx, hnx⟩ : ∃ n, X.en + X.wr.length = n := ⟨_, rfl⟩
  rw [hnx]
  have HNB : Hid (nx <= 1073741824) := hid (by have h1 := HA.en; omega)
  have HNE := hid hnx
  clear hnx HNX
  go_wp2_with fail
  go_cut [10] (fun v wx => ∃ b10, v = .pointer (some ⟨b10, 0, none⟩) /\ Hid (Blk wx b10 47 #[.int .i64 1, .int .i64 (nx : Int), .int .i64 (ck : Int), .int .i64 pid, .int .i64 sq, .string ky, .string vl]) /\ Hid (Below w3.heap.size w3 wx) /\ Hid (w3.heap.size <= b10))
  case first =>
   refine wp_region_head 15 (fun W => Below w3.heap.size w3 W) (by kernel_rfl) (by kernel_rfl) (fun w5 hh5 hb5 => ?_)
   have HB5 := hid hb5
   have hne0 : Nonempty (Held (fun W => Below w3.heap.size w3 W)) := ⟨⟨_, hb5⟩⟩
   have k17 : ∀ p' : Held (fun W => Below w3.heap.size w3 W), p'.w.cell? ⟨t, 17, none⟩ = some (.int .i64 (ck : Int)) := fun p' => ((HTC.out.top.1.below p'.h HTC.out.top.1.lt).cell 17).trans rfl
   have k50 : ∀ p' : Held (fun W => Below w3.heap.size w3 W), p'.w.cell? ⟨w.heap.size, 0, none⟩ = some (.string ky) := fun p' => ((HW3.out.below p'.h HW3.out.lt).cell 0).trans rfl
   have k51 : ∀ p' : Held (fun W => Below w3.heap.size w3 W), p'.w.cell? ⟨w.heap.size, 1, none⟩ = some (.string vl) := fun p' => ((HW3.out.below p'.h HW3.out.lt).cell 1).trans rfl
   have k53 : ∀ p' : Held (fun W => Below w3.heap.size w3 W), p'.w.cell? ⟨w.heap.size, 3, none⟩ = some (.int .i64 pid) := fun p' => ((HW3.out.below p'.h HW3.out.lt).cell 3).trans rfl
   have k54 : ∀ p' : Held (fun W => Below w3.heap.size w3 W), p'.w.cell? ⟨w.heap.size, 4, none⟩ = some (.int .i64 sq) := fun p' => ((HW3.out.below p'.h HW3.out.lt).cell 4).trans rfl
   clear hh5 hb5
   refine headI_batch 0 14 (by kernel_rfl) (by kernel_rfl) HB5.out ?_
   simp only [List.take, List.drop]
   repeat (first | go_big_quiet_skip | (go_big_quiet_want; go_big_quiet_op; go_big_quiet_on))
   refine wpQuiet_nil ?_
   clear k17 k50 k51 k53 k54 hne0
   refine headI_loud 14 (by kernel_rfl) (by kernel_rfl) HB5.out ?_
   simp only [List.take, List.drop]
   go_wp2_with fail
   refine ⟨rfl, ?_⟩
   have HN5 := hid (Blk.new w5 47 #[.int .i64 0, .int .i64 0, .int .i64 0, .int .i64 0, .int .i64 0, .string ⟨#[]⟩, .string ⟨#[]⟩])
   refine headI_end (by kernel_rfl) (HB5.out.alloc HB5.out.size _) ?_
   simp only [List.take, List.drop]
   go_wp2_with (first
     | ((with_reducible refine at_op ⟨none, .store 47 (.tmp 10) (.tmp 56), _, _, _, _⟩ ?_); refine wpList_store_blk rfl 47 (.tmp 10) (.tmp 56) rfl w5.heap.size 0 rfl [.int .i64 1, .int .i64 (nx : Int), .int .i64 (ck : Int), .int .i64 pid, .int .i64 sq, .string ky, .string vl] rfl (by simp [Value.oneCell']) 47 _ HN5.out (by simp) (by kernel_rfl) ?_; intro w6 hT6 hg6 hz6; clear hz6; rw [put7] at hT6; have HR6 := hid hT6; have HB6 : Hid (Below w3.heap.size w3 w6) := hid ((HB5.out.alloc HB5.out.size _).grown hg6 (HB5.out.alloc HB5.out.size _).size (fun k hk => by injection hk with hk; have h1 := HB5.out.size; omega)); clear hT6 hg6)
     | fail)
   go_meet
   exact ⟨w5.heap.size, rfl, HR6, HB6, hid HB5.out.size⟩
  case rest =>
   obtain ⟨b10, rfl, HR7, HB7, HL7⟩ := hcut
   go_step
   refine wp_seq_var (fun K hK => ?_)
   go_cut [10] (fun v wx => v = .pointer (some ⟨b10, 0, none⟩) /\ Hid (Blk wx b10 47 #[.int .i64 (if tb then 2 else 1), .int .i64 (nx : Int), .int .i64 (ck : Int), .int .i64 pid, .int .i64 sq, .string ky, .string vl]) /\ Hid (Below w3.heap.size w3 wx))
   case first =>
    clear hK
    have e2 : wc.cell? ⟨w.heap.size, 2, none⟩ = some (.bool tb) := ((HW3.out.below HB7.out HW3.out.lt).cell 2).trans rfl
    have e0 : wc.cell? ⟨b10, 0, none⟩ = some (.int .i64 1) := (HR7.out.cell 0).trans rfl
    have f0 : wc.frozen? ⟨b10, 0, none⟩ = false := HR7.out.frozen 0
    have HS7 : Hid (Blk (wc.setCell ⟨b10, 0, none⟩ (.int .i64 2)) b10 47 #[.int .i64 2, .int .i64 (nx : Int), .int .i64 (ck : Int), .int .i64 pid, .int .i64 sq, .string ky, .string vl] /\ Below w3.heap.size w3 (wc.setCell ⟨b10, 0, none⟩ (.int .i64 2))) := hid ⟨HR7.out.set_ 0 _, HB7.out.setCell HL7.out _⟩
    cases tb
    · go_wp2_with fail
      go_meet
      exact ⟨rfl, HR7, HB7⟩
    · go_wp2_with fail
      go_meet
      exact ⟨rfl, hid HS7.out.1, hid HS7.out.2⟩
   case rest =>
    obtain ⟨rfl, HR8, HB8⟩ := hcut
    clear HR7 HB7
    obtain ⟨kd, hkd⟩ : ∃ n : Int, (if tb then 2 else 1) = n := ⟨_, rfl⟩
    rw [hkd] at HR8
    have HREQ : Hid (r = ⟨kd, (nx : Int), (ck : Int), pid, sq, ky, vl⟩) := hid (by rw [HRQ.out, <- hkd, <- HNE.out]; rfl)
    clear hkd
    have e0 : wc.cell? ⟨b10, 0, none⟩ = some (.int .i64 kd) := (HR8.out.cell 0).trans rfl
    have e1 : wc.cell? ⟨b10, 1, none⟩ = some (.int .i64 (nx : Int)) := (HR8.out.cell 1).trans rfl
    have e2 : wc.cell? ⟨b10, 2, none⟩ = some (.int .i64 (ck : Int)) := (HR8.out.cell 2).trans rfl
    have e3 : wc.cell? ⟨b10, 3, none⟩ = some (.int .i64 pid) := (HR8.out.cell 3).trans rfl
    have e4 : wc.cell? ⟨b10, 4, none⟩ = some (.int .i64 sq) := (HR8.out.cell 4).trans rfl
    have e5 : wc.cell? ⟨b10, 5, none⟩ = some (.string ky) := (HR8.out.cell 5).trans rfl
    have e6 : wc.cell? ⟨b10, 6, none⟩ = some (.string vl) := (HR8.out.cell 6).trans rfl
    have gn : ((nx : Int) == 1099511627776) = false := by have h1 := HNB.out; simp; omega
    go_step
    go_wp2_with fail
    refine (check_any wc ⟨kd, nx, ck, pid, sq, ky, vl⟩).mono ?_
    rintro e w9 ⟨rfl, hb9⟩
    have HB9 : Hid (Below w3.heap.size w3 w9) := hid (HB8.out.trans (hb9.mono HB8.out.size))
    have HR9 := hid (HR8.out.below hb9 HR8.out.lt)
    clear hb9 gn e0 e1 e2 e3 e4 e5 e6 HR8 HB8
    by_cases hc : checkN ⟨kd, nx, ck, pid, sq, ky, vl⟩ = 0
    · obtain ⟨v, ov, hv1, hv2, hv3⟩ := judges p.c.ta p.am p.an HA.tabok ⟨kd, nx, ck, pid, sq, ky, vl⟩ hc
      have HV1 := hid hv1
      have HV2 := hid hv2
      have HV3 := hid hv3
      have HCK := hid hc
      rw [hc]
      clear hv1 hv2 hv3 hc
      have HTA : Hid (∀ W, Below w3.heap.size w3 W -> TabAt W p.c.ta p.am p.an X.DA) := hid (fun W hb => (HTC.out.below hb).all.1)
      go_wp2_with fail
      refine wp_region_head 13 (fun W => Below w3.heap.size w3 W) (by kernel_rfl) (by kernel_rfl) (fun w10 hh10 hb10 => ?_)
      have HB10 : Hid (Below w3.heap.size w3 w10) := hid (HB9.out.trans (hb10.mono HB9.out.size))
      have HR10 := hid (HR9.out.below hb10 HR9.out.lt)
      have hne0 : Nonempty (Held (fun W => Below w3.heap.size w3 W)) := ⟨⟨_, HB10.out⟩⟩
      have k14 : ∀ p' : Held (fun W => Below w3.heap.size w3 W), p'.w.cell? ⟨t, 14, none⟩ = some (.pointer (some ⟨p.c.ta, 0, none⟩)) := fun p' => ((HTC.out.top.1.below p'.h HTC.out.top.1.lt).cell 14).trans rfl
      have k53 : ∀ p' : Held (fun W => Below w3.heap.size w3 W), p'.w.cell? ⟨w.heap.size, 3, none⟩ = some (.int .i64 pid) := fun p' => ((HW3.out.below p'.h HW3.out.lt).cell 3).trans rfl
      have k54 : ∀ p' : Held (fun W => Below w3.heap.size w3 W), p'.w.cell? ⟨w.heap.size, 4, none⟩ = some (.int .i64 sq) := fun p' => ((HW3.out.below p'.h HW3.out.lt).cell 4).trans rfl
      clear hh10 hb10
      refine headI_batch 0 8 (by kernel_rfl) (by kernel_rfl) HB10.out ?_
      simp only [List.take, List.drop]
      repeat (first | go_big_quiet_skip | (go_big_quiet_want; go_big_quiet_op; go_big_quiet_on))
      refine wpQuiet_nil ?_
      refine headI_loud 8 (by kernel_rfl) (by kernel_rfl) HB10.out ?_
      simp only [List.take, List.drop]
      go_wp2_with fail
      refine (HV1.out w10 (HTA.out _ HB10.out)).mono ?_
      rintro e w11 ⟨rfl, hb11⟩
      have HB11 : Hid (Below w3.heap.size w3 w11) := hid (HB10.out.trans (hb11.mono HB10.out.size))
      have HR11 := hid (HR10.out.below hb11 HR10.out.lt)
      clear hb11
      go_wp2_with fail
      refine ⟨rfl, ?_⟩
      refine headI_batch 9 4 (by kernel_rfl) (by kernel_rfl) HB11.out ?_
      simp only [List.take, List.drop]
      repeat (first | go_big_quiet_skip | (go_big_quiet_want; go_big_quiet_op; go_big_quiet_on))
      refine wpQuiet_nil ?_
      refine headI_end (by kernel_rfl) HB11.out ?_
      simp only [List.take, List.drop]
      by_cases h2 : v = 2
      · subst h2
        go_wp2_with fail
        go_ret3
        refine AppOut.same ⟨_, HTC.out.below HB11.out⟩ (HXC.out.trans (Fx.below HB11.out)) ?_
        rw [HREQ.out]
        rcases HV3.out with ⟨h1, -, -⟩ | ⟨h1, -, known, a, s, o, h3, -, -, h4, h5, -⟩
        · exact absurd h1 (by decide)
        · obtain ⟨h6, h7, h8⟩ := judge_again h4.symm
          subst h6
          exact Or.inr (Or.inl ⟨rfl, rfl, HCK.out, h1, a, by rw [h5, h8]; rw [show (Rc.seq ⟨kd, (nx : Int), (ck : Int), pid, sq, ky, vl⟩) = s from h7]; exact h3⟩)
      · have g2 : (v == 2) = false := by simpa using h2
        go_wp2_with fail
        clear k14 k53 k54 hne0 g2
        refine wp_region_head 9 (fun W => Below w3.heap.size w3 W) (by kernel_rfl) (by kernel_rfl) (fun w12 hh12 hb12 => ?_)
        have HB12 : Hid (Below w3.heap.size w3 w12) := hid (HB11.out.trans (hb12.mono HB11.out.size))
        have HR12 := hid (HR11.out.below hb12 HR11.out.lt)
        have hne0 : Nonempty (Held (fun W => Below w3.heap.size w3 W)) := ⟨⟨_, HB12.out⟩⟩
        have k14 : ∀ p' : Held (fun W => Below w3.heap.size w3 W), p'.w.cell? ⟨t, 14, none⟩ = some (.pointer (some ⟨p.c.ta, 0, none⟩)) := fun p' => ((HTC.out.top.1.below p'.h HTC.out.top.1.lt).cell 14).trans rfl
        have k53 : ∀ p' : Held (fun W => Below w3.heap.size w3 W), p'.w.cell? ⟨w.heap.size, 3, none⟩ = some (.int .i64 pid) := fun p' => ((HW3.out.below p'.h HW3.out.lt).cell 3).trans rfl
        have k54 : ∀ p' : Held (fun W => Below w3.heap.size w3 W), p'.w.cell? ⟨w.heap.size, 4, none⟩ = some (.int .i64 sq) := fun p' => ((HW3.out.below p'.h HW3.out.lt).cell 4).trans rfl
        clear hh12 hb12
        refine headI_batch 0 8 (by kernel_rfl) (by kernel_rfl) HB12.out ?_
        simp only [List.take, List.drop]
        repeat (first | go_big_quiet_skip | (go_big_quiet_want; go_big_quiet_op; go_big_quiet_on))
        refine wpQuiet_nil ?_
        refine headI_loud 8 (by kernel_rfl) (by kernel_rfl) HB12.out ?_
        simp only [List.take, List.drop]
        go_wp2_with fail
        refine (HV2.out w12 (HTA.out _ HB12.out)).mono ?_
        rintro e w13 ⟨rfl, hb13⟩
        have HB13 : Hid (Below w3.heap.size w3 w13) := hid (HB12.out.trans (hb13.mono HB12.out.size))
        have HR13 := hid (HR12.out.below hb13 HR12.out.lt)
        clear hb13 k14 k53 k54 hne0
        go_wp2_with fail
        refine ⟨rfl, ?_⟩
        refine headI_end (by kernel_rfl) HB13.out ?_
        simp only [List.take, List.drop]
        by_cases h3 : refN v = 0
        · have HCASE : Hid ((pid = 0 /\ sq = 0) \/ (0 < pid /\ goodP pid sq = true /\ ∃ known a s o, Knows X.DA pid known a s o /\ 0 <= s /\ s < 1099511627776 /\ (judgeN known s o sq (Maps.size X.DA)).1 = 1)) := by
            rcases HV3.out with ⟨_, h4, h5⟩ | ⟨h4, h5, known, a, s, o, h6, h7, h8, h9, _, h10⟩
            · exact hid (Or.inl ⟨h4, h5⟩)
            · have h11 := refN_zero h3 h2 h10
              exact hid (Or.inr ⟨h4, h5, known, a, s, o, h6, h7, h8, by rw [<- h11]; exact h9.symm⟩)
          rw [h3]
          have gn : ((nx : Int) == 1099511627776) = false := by have h1 := HNB.out; simp; omega
          have e0 : w13.cell? ⟨b10, 0, none⟩ = some (.int .i64 kd) := (HR13.out.cell 0).trans rfl
          have e1 : w13.cell? ⟨b10, 1, none⟩ = some (.int .i64 (nx : Int)) := (HR13.out.cell 1).trans rfl
          have e2 : w13.cell? ⟨b10, 2, none⟩ = some (.int .i64 (ck : Int)) := (HR13.out.cell 2).trans rfl
          have e3 : w13.cell? ⟨b10, 3, none⟩ = some (.int .i64 pid) := (HR13.out.cell 3).trans rfl
          have e4 : w13.cell? ⟨b10, 4, none⟩ = some (.int .i64 sq) := (HR13.out.cell 4).trans rfl
          have e5 : w13.cell? ⟨b10, 5, none⟩ = some (.string ky) := (HR13.out.cell 5).trans rfl
          have e6 : w13.cell? ⟨b10, 6, none⟩ = some (.string vl) := (HR13.out.cell 6).trans rfl
          go_wp2_with fail
          refine (size_any w13 ⟨kd, nx, ck, pid, sq, ky, vl⟩).mono ?_
          rintro e w14 ⟨rfl, hb14⟩
          have HB14 : Hid (Below w3.heap.size w3 w14) := hid (HB13.out.trans (hb14.mono HB13.out.size))
          have HR14 := hid (HR13.out.below hb14 HR13.out.lt)
          clear hb14 e0 e1 e2 e3 e4 e5 e6 gn
          have HTD := hid (HTC.out.below HB14.out)
          have f0 : w14.cell? ⟨t, 0, none⟩ = some (.pointer (some ⟨d, 0, none⟩)) := (HTD.out.top.cell 0).trans (by rw [<- HTV.out.ed]; rfl)
          have f1 : w14.cell? ⟨t, 1, none⟩ = some (.int .i64 (X.i : Int)) := (HTD.out.top.cell 1).trans (by rw [show (X.i : Int) = p.c.id from HTV.out.eid.symm]; rfl)
          have f2 : w14.cell? ⟨t, 2, none⟩ = some (.int .i64 p.c.lim) := (HTD.out.top.cell 2).trans rfl
          have f3 : w14.cell? ⟨t, 3, none⟩ = some (.int .i64 p.c.ret) := (HTD.out.top.cell 3).trans rfl
          obtain ⟨rn, hrn⟩ : ∃ n, (encR ⟨kd, nx, ck, pid, sq, ky, vl⟩).length = n := ⟨_, rfl⟩
          have HRN : Hid ((0 : Int) <= (rn : Int) /\ (rn : Int) <= 1073741824) := hid (by have := (encR_size HCK.out).2; rw [hrn] at this; omega)
          have HREN := hid hrn
          rw [hrn]
          clear hrn
          go_wp2_with fail
          refine (room_any w14 G d q fs no L HTD.out.dk (X.i : Int) p.c.lim p.c.ret rn HRN.out).mono ?_
          rintro e w15 ⟨rfl, hb15⟩
          have HB15 : Hid (Below w3.heap.size w3 w15) := hid (HB14.out.trans (hb15.mono HB14.out.size))
          have HR15 := hid (HR14.out.below hb15 HR14.out.lt)
          clear hb15 f0 f1 f2 f3
          by_cases hrm : (4096 : Int) <= q - (sumF fs : Nat) - rn
          · have HRM := hid hrm
            rw [decide_eq_true hrm]
            clear hrm
            have c11 : w15.cell? ⟨t, 11, none⟩ = some (.pointer (some ⟨p.g, 0, none⟩)) := ((HTC.out.below HB15.out).top.cell 11).trans (by rw [<- HTV.out.eseg]; rfl)
            go_wp2_with fail
            refine (info_any w15 G τ p.g d (clockS X ck).seg (HTC.out.below HB15.out).seg).mono ?_
            rintro e w16 ⟨rfl, hb16⟩
            have HB16 : Hid (Below w3.heap.size w3 w16) := hid (HB15.out.trans (hb16.mono HB15.out.size))
            have HR16 := hid (HR15.out.below hb16 HR15.out.lt)
            clear hb16 c11
            obtain ⟨cnt, hcnt⟩ : ∃ n : Nat, (X.rs ++ X.wr).length = n := ⟨_, rfl⟩
            have HCN := hid hcnt
            have HCB : Hid (cnt <= 131072) := hid (by have h1 := HA.wl; have h2 := HA.rl; rw [List.length_append] at hcnt; omega)
            unfold clockS TS.seg Inf.cells
            dsimp only
            rw [hcnt]
            clear hcnt
            go_wp2_with fail
            obtain ⟨w17, hw17⟩ : ∃ y, w16.alloc (.cells #[.int .i64 (X.i : Int), .int .i64 (X.cur : Int), .int .i64 (X.base : Int), .int .i64 ((21 : Int) + ((bodyR (X.rs ++ X.wr)).length : Nat)), .int .i64 (cnt : Int), .int .i64 ((X.base : Int) - 1 + (cnt : Nat)), .bool false] 79) = y := ⟨_, rfl⟩
            have HB17 : Hid (Below w3.heap.size w3 w17) := by rw [<- hw17]; exact hid (HB16.out.alloc HB16.out.size _)
            have HI17 : Hid (Blk w17 w16.heap.size 79 #[.int .i64 (X.i : Int), .int .i64 (X.cur : Int), .int .i64 (X.base : Int), .int .i64 ((21 : Int) + ((bodyR (X.rs ++ X.wr)).length : Nat)), .int .i64 (cnt : Int), .int .i64 ((X.base : Int) - 1 + (cnt : Nat)), .bool false]) := by rw [<- hw17]; exact hid (Blk.new w16 _ _)
            have HR17 : Hid (Blk w17 b10 47 #[.int .i64 kd, .int .i64 (nx : Int), .int .i64 (ck : Int), .int .i64 pid, .int .i64 sq, .string ky, .string vl]) := by rw [<- hw17]; exact hid (HR16.out.alloc _)
            rw [hw17]
            clear hw17
            have HPOS : Hid (0 <= ((bodyR (X.rs ++ X.wr)).length : Int) /\ ((bodyR (X.rs ++ X.wr)).length : Int) <= 1073741824) := hid ⟨by omega, by have := HA.body; omega⟩
            obtain ⟨bl, hbl⟩ : ∃ n : Nat, (bodyR (X.rs ++ X.wr)).length = n := ⟨_, rfl⟩
            have HBL := hid hbl
            rw [hbl] at HI17 HPOS
            go_cut [130] (fun v wx => v = .bool (decide (0 < cnt /\ X.lim < 21 + bl + rn + 17)) /\ Hid (Below w17.heap.size w17 wx))
            case first =>
              refine wp_region_head 19 (fun W => Below w17.heap.size w17 W) (by kernel_rfl) (by kernel_rfl) (fun w18 hh18 hb18 => ?_)
              have HB18 := hid hb18
              have hne0 : Nonempty (Held (fun W => Below w17.heap.size w17 W)) := ⟨⟨_, hb18⟩⟩
              have k6 : ∀ p' : Held (fun W => Below w17.heap.size w17 W), p'.w.cell? ⟨w16.heap.size, 6, none⟩ = some (.bool false) := fun p' => ((HI17.out.below p'.h HI17.out.lt).cell 6).trans rfl
              have k4 : ∀ p' : Held (fun W => Below w17.heap.size w17 W), p'.w.cell? ⟨w16.heap.size, 4, none⟩ = some (.int .i64 (cnt : Int)) := fun p' => ((HI17.out.below p'.h HI17.out.lt).cell 4).trans rfl
              have k3 : ∀ p' : Held (fun W => Below w17.heap.size w17 W), p'.w.cell? ⟨w16.heap.size, 3, none⟩ = some (.int .i64 ((21 : Int) + (bl : Nat))) := fun p' => ((HI17.out.below p'.h HI17.out.lt).cell 3).trans rfl
              have kl : ∀ p' : Held (fun W => Below w17.heap.size w17 W), p'.w.cell? ⟨t, 2, none⟩ = some (.int .i64 (X.lim : Int)) := fun p' => ((HTC.out.below (HB17.out.trans (p'.h.mono HB17.out.size))).top.cell 2).trans (by rw [show (X.lim : Int) = p.c.lim from HTV.out.elim.symm]; rfl)
              clear hh18 hb18
              by_cases hcz : 0 < cnt
              · have gc0 : decide ((0 : Int) < (cnt : Int)) = true := decide_eq_true (by omega)
                have i1 : IntKind.i64.wrap ((21 : Int) + (bl : Int) + (rn : Int)) = (21 : Int) + (bl : Int) + (rn : Int) := by have h1 := HPOS.out; have h2 := HRN.out; rw [IntKind.wrap_i64]; omega
                have i2 : IntKind.i64.wrap ((21 : Int) + (bl : Int) + (rn : Int) + 17) = (21 : Int) + (bl : Int) + (rn : Int) + 17 := by have h1 := HPOS.out; have h2 := HRN.out; rw [IntKind.wrap_i64]; omega
                refine headI_batch 0 19 (by kernel_rfl) (by kernel_rfl) HB18.out ?_
                simp only [List.take, List.drop]
                repeat (first | go_big_quiet_skip | (go_big_quiet_want; go_big_quiet_op; go_big_quiet_on))
                refine wpQuiet_nil ?_
                refine headI_end (by kernel_rfl) HB18.out ?_
                simp only [List.take, List.drop]
                go_wp2_with fail
                go_meet
                refine ⟨?_, HB18⟩
                have hiff : ((X.lim : Int) < (21 : Int) + (bl : Int) + (rn : Int) + 17) ↔ (0 < cnt /\ X.lim < 21 + bl + rn + 17) := ⟨fun h => ⟨hcz, by omega⟩, fun h => by omega⟩
                rw [decide_eq_decide.2 hiff]
              · have gc0 : decide ((0 : Int) < (cnt : Int)) = false := decide_eq_false (by omega)
                refine headI_batch 0 19 (by kernel_rfl) (by kernel_rfl) HB18.out ?_
                simp only [List.take, List.drop]
                repeat (first | go_big_quiet_skip | (go_big_quiet_want; go_big_quiet_op; go_big_quiet_on))
                refine wpQuiet_nil ?_
                refine headI_end (by kernel_rfl) HB18.out ?_
                simp only [List.take, List.drop]
                go_wp2_with fail
                go_meet
                refine ⟨?_, HB18⟩
                rw [decide_eq_false (fun h => hcz h.1)]
            case rest =>
              obtain ⟨rfl, HB19⟩ := hcut
              have HB20 : Hid (Below w3.heap.size w3 wc) := hid (HB17.out.trans (HB19.out.mono HB17.out.size))
              have HR20 := hid (HR17.out.below HB19.out HR17.out.lt)
              have HW20 := hid (HW3.out.below HB20.out HW3.out.lt)
              have HTE := hid (HTC.out.below HB20.out)
              have HXE : Hid (Fx (CT τ) G G w wc) := hid (((Fx.below HB1.out).trans (HX3.out.mono (ct_r _))).trans (Fx.below HB20.out))
              have HLB : Hid (w.heap.size <= b10) := hid (Nat.le_trans (Nat.le_trans HB1.out.size HX3.out.size) HL7.out)
              clear HB19 HR17 HI17 HB17
              go_step
              go_cut [17] (fun v wx => ∃ X2 G2 fs2 no2 L2, Hid (MidS X ck rn fs x l q no L X2 fs2 no2 L2) /\ Hid (TopAt wx G2 τ t d X2 q fs2 no2 L2) /\ Hid (Fx (CT τ) G G2 w wx) /\ Hid (Blk wx b10 47 #[.int .i64 kd, .int .i64 (nx : Int), .int .i64 (ck : Int), .int .i64 pid, .int .i64 sq, .string ky, .string vl]) /\ Hid (Blk wx w.heap.size 35 #[.string ky, .string vl, .bool tb, .int .i64 pid, .int .i64 sq]) /\ Hid (G2.ow b10 = .other /\ G2.rl b10 = none /\ G2.ow w.heap.size = .other /\ G2.rl w.heap.size = none))
              case first =>
                by_cases hrl : 0 < cnt /\ X.lim < 21 + bl + rn + 17
                · rw [decide_eq_true hrl]
                  go_wp2_with fail
                  by_cases hsg : X.man.segs.length <= 63
                  · obtain ⟨xm, l', HRL⟩ := HA.roll ck HCKB.out (by rw [<- sumF_perm HA.cmh.perm]; have h1 := HRM.out; have h2 := HRN.out; omega) (by rw [HCN.out]; exact hrl.1) hsg
                    refine (roll_some wc G τ t d (clockS X ck) q fs no L ⟨_, HTE.out⟩ x l HA.cmh.clock xm l' HRL).mono ?_
                    rintro e w20 ⟨G', ps, hs, f, f2, no', L', rfl, hps, hpl, hhs, hT, hx, hn', hL', hsum⟩
                    have HMID : Hid (MidS X ck rn fs x l q no L (rollS (clockS X ck) ps) _ no' L') := hid (Or.inr ⟨ps, hs, f, f2, xm, l', _, hps, hpl, hhs, rfl, rfl, HRL, hn', hL', hsum⟩)
                    have HTF := hid hT
                    have HXF : Hid (Fx (CT τ) G G' w w20) := hid (HXE.out.trans hx)
                    have HR21 := hid (keep_new HTV.out.fin hx HLB.out HR20.out)
                    have HW21 := hid (keep_new HTV.out.fin hx (Nat.le_refl _) HW20.out)
                    have HG21 : Hid (G'.ow b10 = .other /\ G'.rl b10 = none /\ G'.ow w.heap.size = .other /\ G'.rl w.heap.size = none) := hid ⟨(hx.ow _ HR20.out.lt).trans (HTV.out.fin _ HLB.out).1, (hx.rl _ HR20.out.lt).trans (HTV.out.fin _ HLB.out).2, (hx.ow _ HW20.out.lt).trans (HTV.out.fin _ (Nat.le_refl _)).1, (hx.rl _ HW20.out.lt).trans (HTV.out.fin _ (Nat.le_refl _)).2⟩
                    clear hps hpl hhs hT hx hn' hL' hsum
                    go_wp2_with fail
                    go_meet
                    exact ⟨_, G', _, no', L', HMID, HTF, HXF, HR21, HW21, HG21⟩
                  · refine (roll_full wc G τ t d (clockS X ck) q fs no L ⟨_, HTE.out⟩ x l HA.cmh.clock HA.da HA.no0 (by show 0 < (X.rs ++ X.wr).length; rw [HCN.out]; exact hrl.1) (by show 64 <= X.man.segs.length; omega) (HA.st ck)).mono ?_
                    rintro e w20 ⟨he, G', no', hT, hX, hn1, hn2⟩
                    have HTF := hid hT
                    have HXF : Hid (Fx (CT τ) G G' w w20) := hid (HXE.out.trans hX)
                    clear hT hX
                    have HNF : Hid (no <= no' /\ no' <= no + min 1 X.wr.length) := hid ⟨hn1, hn2⟩
                    have HSG : Hid (64 <= X.man.segs.length) := hid (by omega)
                    have HC0 : Hid (0 < (X.rs ++ X.wr).length) := hid (by rw [HCN.out]; exact hrl.1)
                    clear hn1 hn2 hsg
                    rcases he with rfl | rfl
                    · go_wp2_with fail
                      go_ret3
                      exact AppOut.full HTF.out HXF.out ⟨Or.inl rfl, by rw [HREQ.out]; exact HCK.out, HSG.out, HC0.out, rfl, rfl, HNF.out.1, HNF.out.2, rfl⟩
                    · go_wp2_with fail
                      go_ret3
                      exact AppOut.full HTF.out HXF.out ⟨Or.inr rfl, by rw [HREQ.out]; exact HCK.out, HSG.out, HC0.out, rfl, rfl, HNF.out.1, HNF.out.2, rfl⟩
                · rw [decide_eq_false hrl]
                  go_wp2_with fail
                  go_meet
                  exact ⟨clockS X ck, G, fs, no, L, hid (Or.inl ⟨rfl, rfl, rfl, rfl, by rw [HCN.out, HBL.out]; omega⟩), hid ⟨_, HTE.out⟩, HXE, HR20, HW20, hid ⟨(HTV.out.fin _ HLB.out).1, (HTV.out.fin _ HLB.out).2, (HTV.out.fin _ (Nat.le_refl _)).1, (HTV.out.fin _ (Nat.le_refl _)).2⟩⟩
              case rest =>
                obtain ⟨X2, G2, fs2, no2, L2, HMID, HTF, HXF, HR21, HW21, HGB⟩ := hcut
                obtain ⟨x2, l2, hp2, hap, hno2⟩ := mid_ap HA ⟨kd, (nx : Int), (ck : Int), pid, sq, ky, vl⟩ HCK.out (by rw [HNE.out]) (by rw [HREN.out]; exact HRM.out) (by rw [HREN.out]; exact HMID.out)
                have HAP := hid hap
                have HP2 := hid hp2
                have HNO2 := hid hno2
                have HND2 := hid HTF.out.nd
                have HNM2 : Hid (x2.name = Sb (nameN X2.i X2.cur)) := hid hap.name
                obtain ⟨p2, h2⟩ := HTF.out
                have HT2 := hid h2
                clear hap hp2 hno2 h2
                go_step
                go_wp2_with fail
                refine wp_region_head 10 (fun W => W.cell? ⟨t, 11, none⟩ = some (.pointer (some ⟨p2.g, 0, none⟩)) /\ Blk W b10 47 #[.int .i64 kd, .int .i64 (nx : Int), .int .i64 (ck : Int), .int .i64 pid, .int .i64 sq, .string ky, .string vl]) (by kernel_rfl) (by kernel_rfl) (fun w21 hh21 hb21 => ?_)
                have HT21 := hid (HT2.out.below hb21)
                have HP21 : Hid ((fun W => W.cell? ⟨t, 11, none⟩ = some (.pointer (some ⟨p2.g, 0, none⟩)) /\ Blk W b10 47 #[.int .i64 kd, .int .i64 (nx : Int), .int .i64 (ck : Int), .int .i64 pid, .int .i64 sq, .string ky, .string vl]) w21) := hid ⟨(HT21.out.top.cell 11).trans (by rw [<- HT21.out.eseg]; rfl), HR21.out.below hb21 HR21.out.lt⟩
                have HW22 := hid (HW21.out.below hb21 HW21.out.lt)
                have HX21 : Hid (Fx (CT τ) G G2 w w21) := hid (HXF.out.trans (Fx.below hb21))
                have hne0 : Nonempty (Held (fun W => W.cell? ⟨t, 11, none⟩ = some (.pointer (some ⟨p2.g, 0, none⟩)) /\ Blk W b10 47 #[.int .i64 kd, .int .i64 (nx : Int), .int .i64 (ck : Int), .int .i64 pid, .int .i64 sq, .string ky, .string vl])) := ⟨⟨_, HP21.out⟩⟩
                have k11 : ∀ p' : Held (fun W => W.cell? ⟨t, 11, none⟩ = some (.pointer (some ⟨p2.g, 0, none⟩)) /\ Blk W b10 47 #[.int .i64 kd, .int .i64 (nx : Int), .int .i64 (ck : Int), .int .i64 pid, .int .i64 sq, .string ky, .string vl]), p'.w.cell? ⟨t, 11, none⟩ = some (.pointer (some ⟨p2.g, 0, none⟩)) := fun p' => p'.h.1
                have kE : ∀ w', (∃ p' : Held (fun W => W.cell? ⟨t, 11, none⟩ = some (.pointer (some ⟨p2.g, 0, none⟩)) /\ Blk W b10 47 #[.int .i64 kd, .int .i64 (nx : Int), .int .i64 (ck : Int), .int .i64 pid, .int .i64 sq, .string ky, .string vl]), w' = p'.w) -> ∀ (j : Nat) (v : Value), ([.int .i64 kd, .int .i64 (nx : Int), .int .i64 (ck : Int), .int .i64 pid, .int .i64 sq, .string ky, .string vl] : List Value)[j]? = some v -> w'.cell? (Addr.add ⟨b10, 0, none⟩ j) = some v := by
                  rintro w' ⟨p', rfl⟩ j v hj
                  rw [add_flat, Nat.zero_add, p'.h.2.cell, <- hj]
                  rcases j with _ | _ | _ | _ | _ | _ | _ | j <;> first | rfl | simp at hj
                clear hh21 hb21
                refine headI_batch 0 5 (by kernel_rfl) (by kernel_rfl) HP21.out ?_
                simp only [List.take, List.drop]
                repeat (first | go_big_quiet_skip | (with_reducible refine wpQuiet_load_list (o := ⟨some 141, .load 47 (.tmp 10), _, _, _, _⟩) rfl 47 (.tmp 10) rfl ⟨b10, 0, none⟩ rfl [.int .i64 kd, .int .i64 (nx : Int), .int .i64 (ck : Int), .int .i64 pid, .int .i64 sq, .string ky, .string vl] kE _ Tryz.underlying47 rfl (by kernel_rfl) ?_; simp only [Act.put, List.setIfInBounds_toArray, List.set_cons_succ, List.set_cons_zero]) | (go_big_quiet_want; go_big_quiet_op; go_big_quiet_on))
                refine wpQuiet_nil ?_
                clear k11 kE
                refine headI_loud 5 (by kernel_rfl) (by kernel_rfl) HP21.out ?_
                simp only [List.take, List.drop]
                go_wp2_with fail
                refine (Go.Proofs.YtendlmdmbkcdnaaGreatDoor.sg.append_any w21 G2 τ p2.g d X2.seg ⟨kd, (nx : Int), (ck : Int), pid, sq, ky, vl⟩ q x2 l2 no2 L2 HT21.out.seg HT21.out.tg (HT21.out.dk.perm HP2.out) HT21.out.fin HNO2.out HAP.out).mono ?_
                rintro e w22 ⟨G3, rfl, hs3, hk3, hx3, hf3⟩
                obtain ⟨sz, hsz⟩ : ∃ z, X2.seg.i.size = z := ⟨_, rfl⟩
                have HSZ := hid hsz
                rw [hsz]
                clear hsz
                have HS3 := hid hs3
                have HK3 := hid hk3
                have HX3' : Hid (Fx (CKS τ) G2 G3 w21 w22) := hid hx3
                have HF3 := hid hf3
                have HT22 := hid (HT21.out.top.keep hx3 (cks_no (by simp) (by simp) (by simp)))
                have HP22 : Hid ((fun W => W.cell? ⟨t, 11, none⟩ = some (.pointer (some ⟨p2.g, 0, none⟩)) /\ Blk W b10 47 #[.int .i64 kd, .int .i64 (nx : Int), .int .i64 (ck : Int), .int .i64 pid, .int .i64 sq, .string ky, .string vl]) w22) := hid ⟨(HT22.out.1.cell 11).trans (by rw [<- HT21.out.eseg]; rfl), blk_keepH HP21.out.2 (hx3.keep _ HP21.out.2.lt (by rw [HGB.out.1, HGB.out.2.1]; exact cks_none))⟩
                clear hs3 hk3 hx3 hf3
                go_wp2_with fail
                refine ⟨rfl, ?_⟩
                refine headI_batch 6 4 (by kernel_rfl) (by kernel_rfl) HP22.out ?_
                simp only [List.take, List.drop]
                repeat (first | go_big_quiet_skip | (go_big_quiet_want; go_big_quiet_op; go_big_quiet_on))
                refine wpQuiet_nil ?_
                refine headI_end (by kernel_rfl) HP22.out ?_
                simp only [List.take, List.drop]
                go_wp2_with fail
                have HB22 := hid (Below.refl w22.heap.size w22)
                have HI10 : Hid (Is G3 b10 none /\ Is G3 w.heap.size none) := hid ⟨(show Is G2 b10 none from ⟨HGB.out.1, HGB.out.2.1⟩).keep HX3'.out HP21.out.2.lt, (show Is G2 w.heap.size none from ⟨HGB.out.2.2.1, HGB.out.2.2.2⟩).keep HX3'.out HW22.out.lt⟩
                have HW23 : Hid (Blk w22 w.heap.size 35 #[.string ky, .string vl, .bool tb, .int .i64 pid, .int .i64 sq]) := hid (blk_keepH HW22.out (HX3'.out.keep _ HW22.out.lt (by rw [HGB.out.2.2.1, HGB.out.2.2.2]; exact cks_none)))
                obtain ⟨wl, hwl⟩ : ∃ n, X2.wr.length = n := ⟨_, rfl⟩
                have HWL := hid hwl
                have HWA : Hid (RowR w22 G3 135 8 (.slice p2.c.wA wl p2.c.wc) wl ((waitsAt X2.wpos X2.wr).flatMap wtC) (some (τ, .waits))) := hid (by have h1 := HT21.out.waits.keep HX3'.out (cks_no (by simp) (by simp) (by simp)); rw [show p2.c.wn = wl from HT21.out.ewn.trans hwl] at h1; exact h1)
                have HWB : Hid (wl <= 65536) := hid (by rw [<- hwl]; exact (mid_facts HA HMID.out).2.2.2.1)
                have HWN : Hid (p2.c.wn = wl) := hid (HT21.out.ewn.trans hwl)
                clear hwl
                refine wp_region_head 12 (PhA t b10 p2.c.cells #[.int .i64 kd, .int .i64 (nx : Int), .int .i64 (ck : Int), .int .i64 pid, .int .i64 sq, .string ky, .string vl]) (by kernel_rfl) (by kernel_rfl) (fun w23 hh23 hb23 => ?_)
                have HB23 : Hid (Below w22.heap.size w22 w23) := hid hb23
                have HP23 : Hid ((PhA t b10 p2.c.cells #[.int .i64 kd, .int .i64 (nx : Int), .int .i64 (ck : Int), .int .i64 pid, .int .i64 sq, .string ky, .string vl]) w23) := hid ⟨HT22.out.1.below hb23 HT22.out.1.lt, HP22.out.2.below hb23 HP22.out.2.lt⟩
                have HWA3 := hid (HWA.out.keep (C := CN) (Fx.below hb23) (fun h => h))
                have HW24 := hid (HW23.out.below hb23 HW23.out.lt)
                have hne0 : Nonempty (Held (PhA t b10 p2.c.cells #[.int .i64 kd, .int .i64 (nx : Int), .int .i64 (ck : Int), .int .i64 pid, .int .i64 sq, .string ky, .string vl])) := ⟨⟨_, HP23.out⟩⟩
                have k15 : ∀ p' : Held (PhA t b10 p2.c.cells #[.int .i64 kd, .int .i64 (nx : Int), .int .i64 (ck : Int), .int .i64 pid, .int .i64 sq, .string ky, .string vl]), p'.w.cell? ⟨t, 15, none⟩ = some (.slice p2.c.wA wl p2.c.wc) := fun p' => (p'.h.1.cell 15).trans (by rw [<- HWN.out]; rfl)
                have kE : ∀ w', (∃ p' : Held (PhA t b10 p2.c.cells #[.int .i64 kd, .int .i64 (nx : Int), .int .i64 (ck : Int), .int .i64 pid, .int .i64 sq, .string ky, .string vl]), w' = p'.w) -> ∀ (j : Nat) (v : Value), ([.int .i64 kd, .int .i64 (nx : Int), .int .i64 (ck : Int), .int .i64 pid, .int .i64 sq, .string ky, .string vl] : List Value)[j]? = some v -> w'.cell? (Addr.add ⟨b10, 0, none⟩ j) = some v := by
                  rintro w' ⟨p', rfl⟩ j v hj
                  rw [add_flat, Nat.zero_add, p'.h.2.cell, <- hj]
                  rcases j with _ | _ | _ | _ | _ | _ | _ | j <;> first | rfl | simp at hj
                clear hh23 hb23
                refine headI_batch 0 8 (by kernel_rfl) (by kernel_rfl) HP23.out ?_
                simp only [List.take, List.drop]
                repeat (first | go_big_quiet_skip | (with_reducible refine wpQuiet_load_list (o := ⟨some 153, .load 47 (.tmp 10), _, _, _, _⟩) rfl 47 (.tmp 10) rfl ⟨b10, 0, none⟩ rfl [.int .i64 kd, .int .i64 (nx : Int), .int .i64 (ck : Int), .int .i64 pid, .int .i64 sq, .string ky, .string vl] kE _ Tryz.underlying47 rfl (by kernel_rfl) ?_; simp only [Act.put, List.setIfInBounds_toArray, List.set_cons_succ, List.set_cons_zero]) | (go_big_quiet_want; go_big_quiet_op; go_big_quiet_on))
                refine wpQuiet_nil ?_
                clear k15 kE
                refine headI_loud 8 (by kernel_rfl) (by kernel_rfl) HP23.out ?_
                simp only [List.take, List.drop]
                go_wp2_with fail
                refine ⟨rfl, ?_⟩
                have HP24 : Hid ((PhA t b10 p2.c.cells #[.int .i64 kd, .int .i64 (nx : Int), .int .i64 (ck : Int), .int .i64 pid, .int .i64 sq, .string ky, .string vl]) (w23.alloc (.cells #[.int .i64 kd, .int .i64 (nx : Int), .int .i64 (ck : Int), .int .i64 pid, .int .i64 sq, .string ky, .string vl, .int .i64 sz] 135))) := hid ⟨HP23.out.1.alloc _, HP23.out.2.alloc _⟩
                obtain ⟨i9, hi9, hz90, hz91, hz92⟩ := info_parts infoWt
                have HMX : Hid (wl + 1 <= maxLen) := hid (by have h1 := HWB.out; unfold maxLen; omega)
                have HLM : Hid ((wl + 1) * 80 <= 140737488355328) := hid (by have h1 := HWB.out; omega)
                clear hne0
                refine headI_loud 9 (by kernel_rfl) (by kernel_rfl) HP24.out ?_
                simp only [List.take, List.drop]
                go_wp2_with (first
                  | (at_builtin; go_must (refine wpList_append_own_at _ rfl _ _ 106 rfl 0 135 i9 _ 8 80 Tryz.underlying106 hi9 hz90 hz91 hz92 rfl (by decide) (.slice p2.c.wA wl p2.c.wc) wl _ rfl (HWA3.out.1.alloc _) ⟨w23.heap.size, 0, none⟩ 1 1 [.int .i64 kd, .int .i64 (nx : Int), .int .i64 (ck : Int), .int .i64 pid, .int .i64 sq, .string ky, .string vl, .int .i64 sz] rfl rfl (by exact Go.Proofs.YtendlmdmbkcdnaaGreatDoor.dd.cells_new w23 135 [.int .i64 kd, .int .i64 (nx : Int), .int .i64 (ck : Int), .int .i64 pid, .int .i64 sq, .string ky, .string vl, .int .i64 sz]) (by simp [Value.oneCell']) HMX.out HLM.out (Nat.zero_le _) ?_; intro v8 w8 hown8 hgr8 _ hloc8; have HO8 := hid hown8; have HG8 := hid hgr8; have HL8 := hid hloc8; clear hown8 hgr8 hloc8))
                  | fail)
                refine ⟨rfl, ?_⟩
                obtain ⟨A8, c8, rfl⟩ := own_slice HO8.out
                obtain ⟨G8, hrow8, hx8, hf8, hn8⟩ := row_app HWA3.out ((Below.refl _ _).alloc (Nat.le_refl _) (.cells #[.int .i64 kd, .int .i64 (nx : Int), .int .i64 (ck : Int), .int .i64 pid, .int .i64 sq, .string ky, .string vl, .int .i64 sz] 135)) HG8.out HO8.out (Nat.succ_pos _) HL8.out (HF3.out.more HB23.out.size)
                have HR8 := hid hrow8
                have HX8 : Hid (Fx (CR (some (τ, .waits))) G3 G8 w23 w8) := hid hx8
                have HF8 := hid hf8
                have HN8 := hid hn8
                have HI8 : Hid (Is G8 b10 none /\ Is G8 w.heap.size none) := hid ⟨HI10.out.1.keep hx8 HP23.out.2.lt, HI10.out.2.keep hx8 HW24.out.lt⟩
                have HT8 : Hid (BlkR w8 G8 t 110 p2.c.cells (some (τ, .top))) := hid ((show BlkR w23 G3 t 110 p2.c.cells (some (τ, .top)) from ⟨HP23.out.1, HT22.out.2⟩).keep hx8 (by rintro ⟨_, e⟩; cases e))
                have HP8 : Hid ((PhA t b10 p2.c.cells #[.int .i64 kd, .int .i64 (nx : Int), .int .i64 (ck : Int), .int .i64 pid, .int .i64 sq, .string ky, .string vl]) w8) := hid ⟨HT8.out.1, ((show BlkR w23 G3 b10 47 #[.int .i64 kd, .int .i64 (nx : Int), .int .i64 (ck : Int), .int .i64 pid, .int .i64 sq, .string ky, .string vl] none from ⟨HP23.out.2, HI10.out.1⟩).keep hx8 (by rintro ⟨_, e⟩; cases e)).1⟩
                have HW8 : Hid (Blk w8 w.heap.size 35 #[.string ky, .string vl, .bool tb, .int .i64 pid, .int .i64 sq]) := hid ((show BlkR w23 G3 w.heap.size 35 #[.string ky, .string vl, .bool tb, .int .i64 pid, .int .i64 sq] none from ⟨HW24.out, HI10.out.2⟩).keep hx8 (by rintro ⟨_, e⟩; cases e)).1
                clear hrow8 hx8 hf8 hn8 HP24 HO8 HG8 HL8 hi9 hz90 hz91 hz92
                have hne0 : Nonempty (Held (PhA t b10 p2.c.cells #[.int .i64 kd, .int .i64 (nx : Int), .int .i64 (ck : Int), .int .i64 pid, .int .i64 sq, .string ky, .string vl])) := ⟨⟨_, HP8.out⟩⟩
                refine headI_batch 10 2 (by kernel_rfl) (by kernel_rfl) HP8.out ?_
                simp only [List.take, List.drop]
                repeat (first | go_big_quiet_skip | (go_big_quiet_want; go_big_quiet_op; go_big_quiet_on))
                refine wpQuiet_nil ?_
                clear hne0
                refine headI_end (by kernel_rfl) HP8.out ?_
                simp only [List.take, List.drop]
                go_wp2_with (first
                  | ((with_reducible refine at_op ⟨none, .store 106 (.tmp 159) (.tmp 157), _, _, _, _⟩ ?_); refine wpList_store_one rfl 106 (.tmp 159) (.tmp 157) rfl t 15 rfl (.slice A8 (wl + 1) c8) rfl rfl rfl 110 _ HT8.out.1 (by simp [Tc.cells]) (by kernel_rfl) ?_; intro w25 hT25 hg25 hz25; clear hz25; have HT25 : Hid (Blk w25 t 110 (Tc.cells { p2.c with wA := A8, wn := wl + 1, wc := c8 })) := hid hT25; have HX25 : Hid (Fx (CR (some (τ, .top))) G8 G8 w8 w25) := hid (Fx.grown hg25 HT8.out.2); clear hT25 hg25)
                  | fail)
                have HW25 : Hid (Blk w25 w.heap.size 35 #[.string ky, .string vl, .bool tb, .int .i64 pid, .int .i64 sq]) := hid ((show BlkR w8 G8 w.heap.size 35 #[.string ky, .string vl, .bool tb, .int .i64 pid, .int .i64 sq] none from ⟨HW8.out, HI8.out.2⟩).keep HX25.out (by rintro ⟨_, e⟩; cases e)).1
                have HAL : Hid (TabR w25 G8 τ .all .allm p2.c.ta p2.am p2.an X2.DA) := hid ((((HT21.out.all.keep HX3'.out (cks_no (by simp) (by simp) (by simp)) (cks_no (by simp) (by simp) (by simp))).keep (C := CN) (Fx.below HB23.out) (fun h => h) (fun h => h)).keep HX8.out (by rintro ⟨_, e⟩; cases e) (by rintro ⟨_, e⟩; cases e)).keep HX25.out (cr_top (by simp)) (cr_top (by simp)))
                refine wp_region_head 9 (PhB t w.heap.size (Tc.cells { p2.c with wA := A8, wn := wl + 1, wc := c8 }) #[.string ky, .string vl, .bool tb, .int .i64 pid, .int .i64 sq]) (by kernel_rfl) (by kernel_rfl) (fun w26 hh26 hb26 => ?_)
                have HB26 : Hid (Below w25.heap.size w25 w26) := hid hb26
                have HP26 : Hid ((PhB t w.heap.size (Tc.cells { p2.c with wA := A8, wn := wl + 1, wc := c8 }) #[.string ky, .string vl, .bool tb, .int .i64 pid, .int .i64 sq]) w26) := hid ⟨HT25.out.below hb26 HT25.out.lt, HW25.out.below hb26 HW25.out.lt⟩
                have hne0 : Nonempty (Held (PhB t w.heap.size (Tc.cells { p2.c with wA := A8, wn := wl + 1, wc := c8 }) #[.string ky, .string vl, .bool tb, .int .i64 pid, .int .i64 sq])) := ⟨⟨_, HP26.out⟩⟩
                have k14 : ∀ p' : Held (PhB t w.heap.size (Tc.cells { p2.c with wA := A8, wn := wl + 1, wc := c8 }) #[.string ky, .string vl, .bool tb, .int .i64 pid, .int .i64 sq]), p'.w.cell? ⟨t, 14, none⟩ = some (.pointer (some ⟨p2.c.ta, 0, none⟩)) := fun p' => (p'.h.1.cell 14).trans rfl
                have k53 : ∀ p' : Held (PhB t w.heap.size (Tc.cells { p2.c with wA := A8, wn := wl + 1, wc := c8 }) #[.string ky, .string vl, .bool tb, .int .i64 pid, .int .i64 sq]), p'.w.cell? ⟨w.heap.size, 3, none⟩ = some (.int .i64 pid) := fun p' => (p'.h.2.cell 3).trans rfl
                have k54 : ∀ p' : Held (PhB t w.heap.size (Tc.cells { p2.c with wA := A8, wn := wl + 1, wc := c8 }) #[.string ky, .string vl, .bool tb, .int .i64 pid, .int .i64 sq]), p'.w.cell? ⟨w.heap.size, 4, none⟩ = some (.int .i64 sq) := fun p' => (p'.h.2.cell 4).trans rfl
                clear hh26 hb26
                refine headI_batch 0 9 (by kernel_rfl) (by kernel_rfl) HP26.out ?_
                simp only [List.take, List.drop]
                repeat (first | go_big_quiet_skip | (go_big_quiet_want; go_big_quiet_op; go_big_quiet_on))
                refine wpQuiet_nil ?_
                clear k14 k53 k54 hne0
                refine headI_end (by kernel_rfl) HP26.out ?_
                simp only [List.take, List.drop]
                have HAM : Hid (TabR w26 G8 τ .all .allm p2.c.ta p2.am p2.an X2.DA) := hid (HAL.out.keep (C := CN) (Fx.below HB26.out) (fun h => h) (fun h => h))
                have HMF := hid (mid_facts HA HMID.out)
                have HANB : Hid (p2.an <= nx) := hid (by rw [<- HNE.out, <- HMF.out.2.1]; exact HT21.out.an1)
                have HNT := hid (note_either w26 p2.c.ta p2.am p2.an X2.DA HAM.out.1 (⟨kd, (nx : Int), (ck : Int), pid, sq, ky, vl⟩ : Rc) nx (Nat.le_trans HANB.out HNB.out) HNB.out HT21.out.tnm (by rw [HMF.out.1]; exact HCASE.out))
                go_wp2_with fail
                refine HNT.out.mono ?_
                rintro e w27 ⟨rfl, n', D', W1, ht27, hn27, hD27, hb27, hm27⟩
                have HTA27 := hid ht27
                have HND27 : Hid (n' <= p2.an + 1) := hid hn27
                have HD27 := hid hD27
                have HXV : Hid (Fx (CV τ) G8 G8 w8 w27) := hid (((HX25.out.mono (cv_r (Or.inl rfl))).trans (Fx.below HB26.out)).trans ((Fx.below hb27).trans ((Fx.maybe hm27 HAM.out.2.2).mono (cv_r (Or.inr rfl)))))
                have HXT : Hid (Fx (CR (some (τ, .allm))) G8 G8 w25 w27) := hid ((Fx.below HB26.out).trans ((Fx.below hb27).trans (Fx.maybe hm27 HAM.out.2.2)))
                clear ht27 hn27 hD27 hb27 hm27 HNT
                go_wp2_with fail
                go_ret3
                have HXW : Fx (CW τ) G3 G8 w22 w27 := ((Fx.below HB23.out).trans (HX8.out.mono cw_r)).trans (HXV.out.mono cw_v)
                have HXA : Fx (CA τ) G2 G8 w21 w27 := (HX3'.out.mono ca_s).trans (HXW.mono cw_ca)
                have hne := HNE.out
                have hre := HREQ.out
                have hrn := HREN.out
                have hwl := HWL.out
                have hsz := HSZ.out
                have hme := HMF.out.2.2.1
                have hms := HMID.out
                have hcc := HCK.out
                have hrm := HRM.out
                have hdd := HD27.out
                rw [HMF.out.1] at hdd
                have HFT : TopAt w27 G8 τ t d (addS X2 (⟨kd, (nx : Int), (ck : Int), pid, sq, ky, vl⟩ : Rc) D') q (⟨x2.name, x2.blk, fApp x2.st (encR (⟨kd, (nx : Int), (ck : Int), pid, sq, ky, vl⟩ : Rc))⟩ :: l2) (no2 + 1) L2 := by
                  have h8 := HR8.out
                  rw [<- waits_snoc X2 (⟨kd, (nx : Int), (ck : Int), pid, sq, ky, vl⟩ : Rc) sz hsz] at h8
                  have hT := HT25.out
                  clear HR8 HT25
                  subst hwl
                  exact ⟨_, TopG.added HT21.out (⟨kd, (nx : Int), (ck : Int), pid, sq, ky, vl⟩ : Rc) D' HXA (HF8.out.more HXV.out.size) (by show (nx : Int) = _; omega) ((show BlkR w25 G8 t 110 _ (some (τ, .top)) from ⟨hT, HT8.out.2⟩).keep HXT.out (by rintro ⟨_, e⟩; cases e)) (HS3.out.keep HXW (cw_no (by simp)) (cw_no (by simp)) (cw_no (by simp)))
                    (h8.keep HXV.out (cv_no (by simp))) ⟨HTA27.out, HAM.out.2⟩ (by have h1 := HND27.out; have h2 := HT21.out.an1; omega) (HK3.out.keep HXW (fun _ _ x => x.1) (fun i hi => by rw [HN8.out]; exact (HF3.out i hi).1))⟩
                have HFX : Fx (CT τ) G G8 w w27 := HX21.out.trans (HXA.mono ca_ct)
                have hnd := HND2.out
                have hnm := HNM2.out
                have hp2 := HP2.out
                have hrm2 : (4096 : Int) <= q - (sumF fs : Nat) - ((encR (⟨kd, (nx : Int), (ck : Int), pid, sq, ky, vl⟩ : Rc)).length : Nat) := by rw [hrn]; exact hrm
                have hms2 : MidS X ck (encR (⟨kd, (nx : Int), (ck : Int), pid, sq, ky, vl⟩ : Rc)).length fs x l q no L X2 fs2 no2 L2 := by rw [hrn]; exact hms
                subst hre
                subst hne
                exact AppOut.add HFT HFX ⟨hcc, hrm2, X2, fs2, no2, L2, x2, l2, D', hms2, hnd, hp2, hnm, hdd, rfl, rfl, rfl, rfl⟩
          · have HRM := hid hrm
            rw [decide_eq_false hrm]
            clear hrm
            go_wp2_with fail
            go_ret3
            refine AppOut.same ⟨_, HTC.out.below HB15.out⟩ (HXC.out.trans (Fx.below HB15.out)) ?_
            rw [HREQ.out]
            exact Or.inr (Or.inr (Or.inr ⟨rfl, HCK.out, by rw [HREN.out]; have h1 := HRM.out; omega⟩))
        · have g3 : (refN v != 0) = true := by simpa using h3
          have HRF := hid h3
          go_wp2_with fail
          go_ret3
          refine AppOut.same ⟨_, HTC.out.below HB13.out⟩ (HXC.out.trans (Fx.below HB13.out)) ?_
          rw [HREQ.out]
          obtain ⟨h4, h5⟩ := refN_cases HRF.out
          refine Or.inr (Or.inr (Or.inl ⟨h4, HCK.out, ?_⟩))
          rcases HV3.out with ⟨h1, -, -⟩ | ⟨h1, -⟩
          · exact absurd h1 h5
          · exact h1
    · have gc : (checkN ⟨kd, nx, ck, pid, sq, ky, vl⟩ != 0) = true := by simpa using hc
      have HCC := hid hc
      go_wp2_with fail
      go_ret3
      refine AppOut.same ⟨_, HTC.out.below HB9.out⟩ (HXC.out.trans (Fx.below HB9.out)) ?_
      rw [HREQ.out]
      exact Or.inl ⟨rfl, HCC.out⟩
end Go.Proofs.YtendlmdmbkcdnaaGreatDoor.tp
