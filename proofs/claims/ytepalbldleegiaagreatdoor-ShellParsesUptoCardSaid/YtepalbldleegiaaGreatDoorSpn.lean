/-
  The program's Parse walked.
  Conditions: the tables are as they were laid; a line of at most a megabyte.
-/
import Derived.Test.YtepalbldleegiaaGreatDoorSpm
namespace Go.Proofs.YtepalbldleegiaaGreatDoor.sh
open Go.RowKit
open Go.Lib (itoa decDigits byteCells atoiAll)

/-- what Parse gives -/
def GivesC (w : World) (o : Option Cmd) (e : Ending) (w' : World) : Prop :=
  match o with
  | none => e = .returned (.tuple #[.agg (cmdC cmd0 nilS nilS), .int .i64 230]) ∧ Below w.heap.size w w'
  | some c => ∃ sR sP, e = .returned (.tuple #[.agg (cmdC c sR sP), .int .i64 0]) ∧ Below w.heap.size w w' ∧ w'.ownsRow w.heap.size 5 1 sR c.raw.length (byteCells c.raw) ∧ w'.ownsRow w.heap.size 3 1 sP c.picks.length (intC c.picks)
def zC : Array Value := #[.int .i64 0, .int .i64 0, .int .u32 0, .int .i64 0, .string ⟨#[]⟩, .string ⟨#[]⟩, .string ⟨#[]⟩, .int .i64 0, .int .i64 0, .int .i64 0, .int .i64 0, .slice none 0 0, .int .i64 0, .slice none 0 0]

theorem results_parse (tmps : Array Value) (w : World) (cb eb : Nat) (cs : Array Value) (n : Int) (hsz : cs.size = 14) (h2 : tmps.getD 2 undef = .pointer (some ⟨cb, 0, none⟩)) (h3 : tmps.getD 3 undef = .pointer (some ⟨eb, 0, none⟩)) (hc : Blk w cb 28 cs) (he : Blk w eb 30 #[.int .i64 n]) :
    (results Tryz.f12 tmps).run Tryz.prog w = .ok (.tuple #[.agg cs, .int .i64 n]) w := by
  have h2' : tmps[2]?.getD undef = .pointer (some ⟨cb, 0, none⟩) := by simpa using h2
  have h3' : tmps[3]?.getD undef = .pointer (some ⟨eb, 0, none⟩) := by simpa using h3
  have hi : (Tryz.prog.info? 28).map (·.size) = some cs.size := by rw [hsz]; kernel_rfl
  have c0 : w.cell? ⟨eb, 0, none⟩ = some (.int .i64 n) := he.cell 0
  have hl2 : (loadVar 30 ⟨eb, 0, none⟩).run Tryz.prog w = .ok (.int .i64 n) w := by simp [go_sem, c0]
  simp [results, h2', h3', asAddr, run_loadVar_row w cb 28 28 cs (0, 0) _ hc Tryz.underlying28 rfl hi, hl2]
theorem bytes_of_own {w : World} {B : Nat} {X : Option Addr} {cc : Nat} {l : Bs} (h : w.ownsRow B 5 1 (.slice X l.length cc) l.length (byteCells l)) : BytesAt w w.heap.size X l := fun hn => by
  obtain ⟨g, cap, e, -, hg, -, hc⟩ := own_read h (List.length_pos_iff.2 hn)
  injection e with e1 e2 e3
  refine ⟨g, 0, e1, hg, fun i x hx => ?_⟩
  exact hc i _ (by simp only [byteCells, List.getElem?_map, hx, Option.map_some])
theorem ints_of_own {w : World} {B : Nat} {X : Option Addr} {cc : Nat} {l : List Int} (h : w.ownsRow B 3 1 (.slice X l.length cc) l.length (intC l)) : IntsAt w w.heap.size X l := fun hn => by
  obtain ⟨g, cap, e, -, hg, -, hc⟩ := own_read h (List.length_pos_iff.2 hn)
  injection e with e1 e2 e3
  refine ⟨g, 0, e1, hg, fun i x hx => ?_⟩
  exact hc i _ (by simp only [intC, List.getElem?_map, hx, Option.map_some])
theorem below_gb2 {B cb eb : Nat} {a w w' : World} (h : Below B a w) (hg : Gb2 cb eb w w') (hB : B ≤ w.heap.size) (h1 : B ≤ cb) (h2 : B ≤ eb) : Below B a w' :=
  ⟨hg.os.trans h.os, hg.tape.trans h.tape, hg.output.trans h.output, Nat.le_trans h.size hg.size, fun k hk => (hg.block k (by omega) (by omega) (by omega)).trans (h.block k hk)⟩
theorem cutL_ne (s : Bs) : ∀ (cur : Bs) (q e : Bool), 0 < (cutL cur q e s).length := by
  induction s with
  | nil => intro cur q e; simp [cutL]
  | cons c s ih =>
    intro cur q e
    simp only [cutL]
    split
    · exact ih _ _ _
    · simp
theorem cmdC_L (c : Cmd) (x y : Value) : cmdC c x y = (cmdL c x y).toArray := by simp [cmdC, cmdL]

set_option maxRecDepth 100000 in
set_option maxHeartbeats 8000000 in
theorem parse_any (l : Bs) (hl : l.length ≤ 1048576) (w : World) (ht : Tab w) (hu : Use w) (he : Errs w) : Calls Tryz.prog 12 #[.string (S l)] w (GivesC w (parseL l)) := by
  have hmf : ∀ (fn : Fn) (first cap : Array Value) (w : World), (Instr.makeFunc fn first cap).run Tryz.prog w = .ok (.func fn first cap) w := fun _ _ _ _ => rfl
  have hsz : (S l).size = l.length := S_size _
  obtain ⟨res, hres⟩ : ∃ x, parseL l = x := ⟨_, rfl⟩
  rw [hres]
  have HRES := Lib.hid hres
  have hbc : Below w.heap.size w (w.alloc (.cells zC 28)) := (Below.refl _ _).alloc (Nat.le_refl _) _
  have hTC := Blk.new w 28 zC
  have hbe : Below w.heap.size w ((w.alloc (.cells zC 28)).alloc (.cells #[.int .i64 0] 30)) := hbc.alloc hbc.size _
  have hTE := Blk.new (w.alloc (.cells zC 28)) 30 #[.int .i64 0]
  have hTC2 := hTC.alloc (.cells #[.int .i64 0] 30)
  rw [World.size_alloc] at hTE
  clear hres hbc hTC
  unfold zC at hbe hTE hTC2
  go_enter_defers Tryz.func12, Tryz.ntmps12
  go_upto_region 1 with fail
  generalize hw0 : (w.alloc _).alloc _ = w0 at hbe hTE hTC2 ⊢
  clear hw0
  have HB0 := Lib.hid hbe
  have HTC := Lib.hid hTC2
  have HTE := Lib.hid hTE
  clear hbe hTE hTC2
  by_cases hlong : 4096 < l.length
  · have HF : Hid (res = none) := Lib.hid (by rw [← HRES.out, parseL, if_pos hlong])
    have hlong' : 4096 < (l.length : Int) := by omega
    go_wp2_with (first
      | ((with_reducible refine at_op ⟨_, .load 28 (.tmp 2), _, _, _, _⟩ ?_); refine wpList_load_list rfl 28 (.tmp 2) rfl ⟨w.heap.size, 0, none⟩ rfl (cmdL cmd0 nilS nilS) (cmd_load HTC.out) _ Tryz.underlying28 rfl (by kernel_rfl) ?_)
      | ((with_reducible refine at_op ⟨_, .store 28 (.tmp 2) (.tmp 10), _, _, _, _⟩ ?_); refine wpList_store_blk rfl 28 (.tmp 2) (.tmp 10) rfl w.heap.size 0 rfl (cmdL cmd0 nilS nilS) rfl (cmdL_one _ _ _ _ _ _ _) 28 _ HTC.out (show 0 + 14 ≤ 14 from Nat.le_refl 14) (by kernel_rfl) ?_; intro w1 hT1 hg1 hs1; rw [put_cmd _ rfl] at hT1; have HT1 := Lib.hid hT1; have HG1 := Lib.hid hg1; have HE1 := Lib.hid (HTE.out.gb hg1 (by omega)); have c1 := HE1.out.cell 0; have z1 := HE1.out.frozen 0; clear hT1 hg1 hs1)
      | fail)
    have hE2 : Blk (w1.setCell ⟨w.heap.size + 1, 0, none⟩ (.int .i64 230)) (w.heap.size + 1) 30 #[.int .i64 230] := HE1.out.set_ 0 _
    have hg2 := gb_setC w1 (w.heap.size + 1) 0 (.int .i64 230)
    refine ⟨_, results_parse _ _ w.heap.size (w.heap.size + 1) _ 230 rfl rfl rfl (HT1.out.gb hg2 (by omega)) hE2, ?_⟩
    rw [HF.out]
    exact ⟨rfl, below_gb (below_gb HB0.out HG1.out HB0.out.size (Nat.le_refl _)) hg2 (Nat.le_trans HB0.out.size HG1.out.size) (Nat.le_succ _)⟩
  · have hlong' : ¬ 4096 < (l.length : Int) := by omega
    obtain ⟨ps, hps⟩ : ∃ x, cutL [] false false l = x := ⟨_, rfl⟩
    have HR1 : Hid (res = (commandP ps).bind fun c => if printL c = some l then some c else none) := Lib.hid (by rw [← HRES.out, parseL, if_neg hlong, hps])
    have HL4 : Hid (∀ p ∈ ps, p.length ≤ 4096) := Lib.hid fun p hp => by
      rw [← hps] at hp
      have := (cutL_lens l [] false false).2 p hp
      simp only [List.length_nil] at this
      omega
    have HN4 : Hid (ps.length ≤ 4097) := Lib.hid (by
      rw [← hps]
      have := (cutL_lens l [] false false).1
      omega)
    have HNE : Hid (0 < ps.length) := Lib.hid (by rw [← hps]; exact cutL_ne _ _ _ _)
    go_wp2_with fail
    refine (cut_any l (by omega) w0).mono ?_
    rw [hps]
    rintro e w1 ⟨v, rfl, ho, hb1⟩
    obtain ⟨g, cap, rfl, hg0, hg1, hcap, hcl⟩ := own_read ho HNE.out
    have hsw : w.heap.size + 2 ≤ w0.heap.size := by have := HTE.out.lt; omega
    have HB1 : Hid (Below w.heap.size w w1) := HB0.out.trans (hb1.mono HB0.out.size)
    have HTC1 : Hid (Blk w1 w.heap.size 28 _) := HTC.out.below hb1 HTC.out.lt
    have HTE1 : Hid (Blk w1 (w.heap.size + 1) 30 _) := HTE.out.below hb1 HTE.out.lt
    have hb2 : Below w1.heap.size w1 (w1.alloc (.cells #[.slice (some ⟨g, 0, none⟩) ps.length cap] 65)) := (Below.refl _ _).alloc (Nat.le_refl _) _
    have hTP : Blk (w1.alloc (.cells #[.slice (some ⟨g, 0, none⟩) ps.length cap] 65)) w1.heap.size 65 #[.slice (some ⟨g, 0, none⟩) ps.length cap] := Blk.new w1 _ _
    have HB2 := Lib.hid hb2
    have HTP := Lib.hid hTP
    have HCL := Lib.hid hcl
    have hs1 := hb1.size
    clear hps ho hcl hb2 hTP hb1
    go_upto_region 5 with fail
    generalize hw2 : w1.alloc _ = w2 at HB2 HTP ⊢
    clear hw2
    have HPA2 : Hid (PartsAt w2 w1.heap.size ps) := Lib.hid ⟨by have := he.1; omega, g, 0, cap, HTP.out, hg1, hcap, fun j x hx => (HB2.out.cell (p := ⟨g, 0 + j, none⟩) hg1).trans (HCL.out j _ (by simp only [strV, List.getElem?_map, hx, Option.map_some]))⟩
    have HBW2 : Hid (Below w.heap.size w w2) := HB1.out.trans (HB2.out.mono HB1.out.size)
    have HE2 := Lib.hid (he.below HBW2.out)
    have HTC2 : Hid (Blk w2 w.heap.size 28 _) := HTC1.out.below HB2.out HTC1.out.lt
    have HTE2 : Hid (Blk w2 (w.heap.size + 1) 30 _) := HTE1.out.below HB2.out HTE1.out.lt
    have hpw : w.heap.size + 2 ≤ w1.heap.size := by omega
    clear hg0 hg1 hcap
    go_wp2_with fail
    refine (command_read w1.heap.size ps w2 HPA2.out HE2.out HL4.out HN4.out).mono ?_
    rcases hcp : commandP ps with _ | c
    · rintro e w3 ⟨rfl, hg3⟩
      have HF : Hid (res = none) := Lib.hid (by rw [HR1.out, hcp]; rfl)
      have HB3 : Hid (Below w.heap.size w w3) := below_gb HBW2.out hg3 HBW2.out.size (by omega)
      have HTC3 : Hid (Blk w3 w.heap.size 28 _) := HTC2.out.gb hg3 (by omega)
      have HTE3 : Hid (Blk w3 (w.heap.size + 1) 30 _) := HTE2.out.gb hg3 (by omega)
      clear hcp hg3
      go_wp2_with fail
      refine leaves_cons (f := 29) (args := #[.pointer (some ⟨w.heap.size, 0, none⟩), .pointer (some ⟨w.heap.size + 1, 0, none⟩)]) (by simp) (by simp [go_sem]) ?_
      refine (catch_am w.heap.size (w.heap.size + 1) w3 _ rfl HTC3.out _ HTE3.out (by omega)).mono ?_
      rintro e u' wz ⟨rfl, rfl, hcz, hez, hgz⟩
      refine ⟨_, results_parse _ wz w.heap.size (w.heap.size + 1) _ 230 rfl rfl rfl hcz hez, ?_⟩
      rw [HF.out]
      exact ⟨rfl, below_gb2 HB3.out hgz HB3.out.size (Nat.le_refl _) (Nat.le_succ _)⟩
    · rintro e w3 ⟨sR, sP, rfl, hg3, hoR, hoP⟩
      have HR2 : Hid (res = if printL c = some l then some c else none) := Lib.hid (by rw [HR1.out, hcp]; rfl)
      have HI : Hid (cmdI c) := Lib.hid (cmdI_of (commandP_ints hcp) (command_lens HL4.out HN4.out hcp))
      obtain ⟨X, cX, rfl⟩ := own_sl hoR
      obtain ⟨Y, cY, rfl⟩ := own_sl hoP
      have HB3 : Hid (Below w.heap.size w w3) := below_gb HBW2.out hg3 HBW2.out.size (by omega)
      have HTC3 : Hid (Blk w3 w.heap.size 28 _) := HTC2.out.gb hg3 (by omega)
      have HTE3 : Hid (Blk w3 (w.heap.size + 1) 30 _) := HTE2.out.gb hg3 (by omega)
      have HOR : Hid (w3.ownsRow w2.heap.size 5 1 _ _ _) := hoR
      have HOP : Hid (w3.ownsRow w2.heap.size 3 1 _ _ _) := hoP
      have HCL2 : Hid (cmdC c (.slice X c.raw.length cX) (.slice Y c.picks.length cY) = (cmdL c (.slice X c.raw.length cX) (.slice Y c.picks.length cY)).toArray) := cmdC_L _ _ _
      have hs2 := HBW2.out.size
      have hw2s : w.heap.size + 2 ≤ w2.heap.size := by have := HTE2.out.lt; omega
      rw [HCL2.out]
      clear hcp hg3 hoR hoP
      go_wp2_with (first
        | ((with_reducible refine at_op ⟨_, .store 28 (.tmp 2) (.tmp 17), _, _, _, _⟩ ?_); refine wpList_store_blk rfl 28 (.tmp 2) (.tmp 17) rfl w.heap.size 0 rfl (cmdL c (.slice X c.raw.length cX) (.slice Y c.picks.length cY)) rfl (cmdL_one _ _ _ _ _ _ _) 28 _ HTC3.out (show 0 + 14 ≤ 14 from Nat.le_refl 14) (by kernel_rfl) ?_; intro w4 hT4 hg4 hs4; rw [put_cmd _ rfl] at hT4; have HTC4 := Lib.hid hT4; have HG4 := Lib.hid hg4; clear hT4 hg4 hs4)
        | ((with_reducible refine at_op ⟨_, .load 28 (.tmp 2), _, _, _, _⟩ ?_); refine wpList_load_list rfl 28 (.tmp 2) rfl ⟨w.heap.size, 0, none⟩ rfl (cmdL c (.slice X c.raw.length cX) (.slice Y c.picks.length cY)) (cmd_load HTC4.out) _ Tryz.underlying28 rfl (by kernel_rfl) ?_)
        | fail)
      have HB4 : Hid (Below w.heap.size w w4) := below_gb HB3.out HG4.out HB3.out.size (Nat.le_refl _)
      have HTE4 : Hid (Blk w4 (w.heap.size + 1) 30 _) := HTE3.out.gb HG4.out (by omega)
      have HOR4 := Lib.hid (own_gb HOR.out HG4.out (by omega))
      have HOP4 := Lib.hid (own_gb HOP.out HG4.out (by omega))
      have hpr := print_any c X cX Y cY w4 (tab_below ht HB4.out) (use_below hu HB4.out) HI.out (bytes_of_own HOR4.out) (ints_of_own HOP4.out)
      rw [HCL2.out] at hpr
      refine hpr.mono ?_
      clear hpr
      rcases hpl : printL c with _ | s
      · rintro e w5 ⟨rfl, hb5⟩
        have HF : Hid (res = none) := Lib.hid (by rw [HR2.out, hpl]; rfl)
        have HB5 : Hid (Below w.heap.size w w5) := HB4.out.trans (hb5.mono HB4.out.size)
        have HTC5 : Hid (Blk w5 w.heap.size 28 _) := HTC4.out.below hb5 HTC4.out.lt
        have HTE5 : Hid (Blk w5 (w.heap.size + 1) 30 _) := HTE4.out.below hb5 HTE4.out.lt
        clear hpl hb5
        unfold prV
        go_wp2_with fail
        refine leaves_cons (f := 29) (args := #[.pointer (some ⟨w.heap.size, 0, none⟩), .pointer (some ⟨w.heap.size + 1, 0, none⟩)]) (by simp) (by simp [go_sem]) ?_
        refine (catch_am w.heap.size (w.heap.size + 1) w5 _ rfl HTC5.out _ HTE5.out (by omega)).mono ?_
        rintro e u' wz ⟨rfl, rfl, hcz, hez, hgz⟩
        refine ⟨_, results_parse _ wz w.heap.size (w.heap.size + 1) _ 230 rfl rfl rfl hcz hez, ?_⟩
        rw [HF.out]
        exact ⟨rfl, below_gb2 HB5.out hgz HB5.out.size (Nat.le_refl _) (Nat.le_succ _)⟩
      · rintro e w5 ⟨rfl, hb5⟩
        have HB5 : Hid (Below w.heap.size w w5) := HB4.out.trans (hb5.mono HB4.out.size)
        have HTC5 : Hid (Blk w5 w.heap.size 28 _) := HTC4.out.below hb5 HTC4.out.lt
        have HTE5 : Hid (Blk w5 (w.heap.size + 1) 30 _) := HTE4.out.below hb5 HTE4.out.lt
        have HOR5 : Hid (w5.ownsRow w2.heap.size 5 1 _ _ _) := HOR4.out.kept (grown_of_below hb5) (by cases hv : Value.ownBlock _ <;> simp)
        have HOP5 : Hid (w5.ownsRow w2.heap.size 3 1 _ _ _) := HOP4.out.kept (grown_of_below hb5) (by cases hv : Value.ownBlock _ <;> simp)
        unfold prV
        by_cases hsl : s = l
        · subst hsl
          have HF : Hid (res = some c) := Lib.hid (by rw [HR2.out, if_pos hpl])
          clear hpl hb5
          go_wp2_with (first
            | ((with_reducible refine at_op ⟨_, .load 28 (.tmp 2), _, _, _, _⟩ ?_); refine wpList_load_list rfl 28 (.tmp 2) rfl ⟨w.heap.size, 0, none⟩ rfl (cmdL c (.slice X c.raw.length cX) (.slice Y c.picks.length cY)) (cmd_load HTC5.out) _ Tryz.underlying28 rfl (by kernel_rfl) ?_)
            | ((with_reducible refine at_op ⟨_, .store 28 (.tmp 2) (.tmp 32), _, _, _, _⟩ ?_); refine wpList_store_blk rfl 28 (.tmp 2) (.tmp 32) rfl w.heap.size 0 rfl (cmdL c (.slice X c.raw.length cX) (.slice Y c.picks.length cY)) rfl (cmdL_one _ _ _ _ _ _ _) 28 _ HTC5.out (show 0 + 14 ≤ 14 from Nat.le_refl 14) (by kernel_rfl) ?_; intro w6 hT6 hg6 hs6; rw [put_cmd _ rfl] at hT6; have HTC6 := Lib.hid hT6; have HG6 := Lib.hid hg6; have HTE6 := Lib.hid (HTE5.out.gb hg6 (by omega)); have c6 := HTE6.out.cell 0; have z6 := HTE6.out.frozen 0; clear hT6 hg6 hs6)
            | fail)
          have hE7 : Blk (w6.setCell ⟨w.heap.size + 1, 0, none⟩ (.int .i64 0)) (w.heap.size + 1) 30 #[.int .i64 0] := HTE6.out.set_ 0 _
          have hg7 := gb_setC w6 (w.heap.size + 1) 0 (.int .i64 0)
          have hC7 := HTC6.out.gb hg7 (by omega)
          have hB7 : Below w.heap.size w (w6.setCell ⟨w.heap.size + 1, 0, none⟩ (.int .i64 0)) := below_gb (below_gb HB5.out HG6.out HB5.out.size (Nat.le_refl _)) hg7 (Nat.le_trans HB5.out.size HG6.out.size) (Nat.le_succ _)
          have hR7 := own_gb (own_gb HOR5.out HG6.out (by omega)) hg7 (by omega)
          have hP7 := own_gb (own_gb HOP5.out HG6.out (by omega)) hg7 (by omega)
          refine leaves_cons (f := 29) (args := #[.pointer (some ⟨w.heap.size, 0, none⟩), .pointer (some ⟨w.heap.size + 1, 0, none⟩)]) (by simp) (by simp [go_sem]) ?_
          refine (catch_idle w.heap.size (w.heap.size + 1) _).mono ?_
          rintro e u' wz ⟨rfl, rfl, rfl⟩
          refine ⟨_, results_parse _ _ w.heap.size (w.heap.size + 1) _ 0 rfl rfl rfl hC7 hE7, ?_⟩
          rw [HF.out]
          exact ⟨_, _, rfl, hB7, own_mono hR7 hs2, own_mono hP7 hs2⟩
        · have HF : Hid (res = none) := Lib.hid (by rw [HR2.out, if_neg (fun e => hsl (Option.some.inj (hpl.symm.trans e)))])
          have hne : ((S s).toList == (S l).toList) = false := by rw [beq_eq_false_iff_ne, S_list, S_list]; exact hsl
          clear hpl hb5 hsl
          go_wp2_with fail
          refine leaves_cons (f := 29) (args := #[.pointer (some ⟨w.heap.size, 0, none⟩), .pointer (some ⟨w.heap.size + 1, 0, none⟩)]) (by simp) (by simp [go_sem]) ?_
          refine (catch_am w.heap.size (w.heap.size + 1) w5 _ rfl HTC5.out _ HTE5.out (by omega)).mono ?_
          rintro e u' wz ⟨rfl, rfl, hcz, hez, hgz⟩
          refine ⟨_, results_parse _ wz w.heap.size (w.heap.size + 1) _ 230 rfl rfl rfl hcz hez, ?_⟩
          rw [HF.out]
          exact ⟨rfl, below_gb2 HB5.out hgz HB5.out.size (Nat.le_refl _) (Nat.le_succ _)⟩
end Go.Proofs.YtepalbldleegiaaGreatDoor.sh
