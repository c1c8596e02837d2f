/-
  The program's command out of the parts of a line: walked.
  Conditions: parts of at most 4096 bytes, at most 4097 of them; the two errors' variables hold errors.
-/
import Derived.Test.YtepalbldleegiaaGreatDoorSpi
namespace Go.Proofs.YtepalbldleegiaaGreatDoor.sh
open Go.RowKit
open Go.Lib (itoa decDigits byteCells atoiAll)

def ReadsC (pg : Nat) (w : World) (o : Option Cmd) (e : Ending) (w' : World) : Prop :=
  match o with
  | none => e = .panicked am ∧ w.grownBy w' (some pg)
  | some c => ∃ sR sP, e = .returned (.agg (cmdC c sR sP)) ∧ w.grownBy w' (some pg) ∧ w'.ownsRow w.heap.size 5 1 sR c.raw.length (byteCells c.raw) ∧ w'.ownsRow w.heap.size 3 1 sP c.picks.length (intC c.picks)
theorem rd_enter (i : Nat) (args : Array Value) (w : World) : (callFunc (rdF i) args).run Tryz.prog w = .ok (.enter (rdF i) args) w := by
  unfold rdF
  split <;> exact cf_enter (by kernel_rfl) _ _
theorem verbR_any (v : Nat) (hv : v < 11) (b pg : Nat) (l : List Bs) (w : World) (hq : Blk w b 28 (cmdC { cmd0 with verb := v } nilS nilS)) (hb : pg < b) (hp : PartsAt w pg l) (he : Errs w) (hl : ∀ p ∈ l, p.length ≤ 4096) (hn : l.length ≤ 4097) :
    Calls Tryz.prog (rdF v) #[.pointer (some ⟨b, 0, none⟩), .pointer (some ⟨pg, 0, none⟩)] w (VerbPost b pg w (verbP v l)) := by
  rcases (by omega : v = 0 ∨ v = 1 ∨ v = 2 ∨ v = 3 ∨ v = 4 ∨ v = 5 ∨ v = 6 ∨ v = 7 ∨ v = 8 ∨ v = 9 ∨ v = 10) with rfl | rfl | rfl | rfl | rfl | rfl | rfl | rfl | rfl | rfl | rfl
  · exact vr0 b pg l w hq hb hp he hl
  · exact vr1 b pg l w hq hb hp he hl
  · exact vr2 b pg l w hq hb hp he hl
  · exact vr3 b pg l w hq hb hp he hl
  · exact vr4 b pg l w hq hb hp he hl
  · exact vr5 b pg l w hq hb hp he hl hn
  · exact vr6 b pg l w hq hb hp he hl
  · exact vr7 b pg l w hq hb hp he hl
  · exact vr8 b pg l w hq hb hp he hl hn
  · exact vr9 b pg l w hq hp
  · exact vr10 b pg l w hq hp
theorem verbL_one (i : Nat) : ∀ u ∈ verbL i, u.oneCell' = true := by
  intro u hu
  simp only [verbL, List.mem_cons, List.not_mem_nil, or_false] at hu
  rcases hu with rfl | rfl | rfl <;> rfl
theorem cmdL_one (c : Cmd) (X Y : Option Addr) (n m a b : Nat) : ∀ u ∈ cmdL c (.slice X n a) (.slice Y m b), u.oneCell' = true := by
  intro u hu
  simp only [cmdL, List.mem_cons, List.not_mem_nil, or_false] at hu
  rcases hu with rfl | rfl | rfl | rfl | rfl | rfl | rfl | rfl | rfl | rfl | rfl | rfl | rfl | rfl <;> rfl
theorem put_cmd (z : Array Value) (hz : z.size = 14) (c : Cmd) (sR sP : Value) : putFrom z 0 (cmdL c sR sP) = cmdC c sR sP := by
  apply Array.ext
  · rw [putFrom_size, hz]; rfl
  · intro i h1 h2
    have h9 : i < 14 := by rw [putFrom_size, hz] at h1; exact h1
    have := putFrom_in (cmdL c sR sP) z 0 i (by exact h9) (by rw [hz]; exact Nat.le_refl 14)
    rw [Nat.zero_add, Array.getElem?_eq_getElem h1] at this
    have e : (cmdC c sR sP)[i]? = (cmdL c sR sP)[i]? := by simp [cmdC, cmdL]
    rw [← e, Array.getElem?_eq_getElem h2] at this
    exact Option.some.inj this
theorem cell_below {w w' : World} (hb : Below w.heap.size w w') {a : Addr} {v : Value} (h : w.cell? a = some v) : w'.cell? a = w.cell? a := by
  refine hb.cell ?_
  rcases Nat.lt_or_ge a.block w.heap.size with hlt | hge
  · exact hlt
  · have : w.heap[a.block]? = none := Array.getElem?_eq_none hge
    simp [World.cell?, this] at h
theorem verbW_get (k : Nat) (h1 : k < 11) : verbWords[k]? = some (verbWords.getD k []) := by
  have : ∀ i : Fin 11, verbWords[i.val]? = some (verbWords.getD i.val []) := by decide
  exact this ⟨k, h1⟩

set_option maxRecDepth 100000 in
set_option maxHeartbeats 8000000 in
theorem command_read (pg : Nat) (l : List Bs) (w : World) (h : PartsAt w pg l) (he : Errs w) (hl : ∀ p ∈ l, p.length ≤ 4096) (hn : l.length ≤ 4097) :
    Calls Tryz.prog 31 #[.pointer (some ⟨pg, 0, none⟩)] w (ReadsC pg w (commandP l)) := by
  obtain ⟨res, hres⟩ : ∃ x, commandP l = x := ⟨_, rfl⟩
  rw [hres]
  have HRES := Lib.hid hres
  have HL := Lib.hid hl
  have H6 := Lib.hid h.1
  have HPL := Lib.hid h.lt
  clear hres hl
  have hb0 : Below w.heap.size w (w.alloc (.cells #[.int .i64 0, .int .i64 0, .int .u32 0, .int .i64 0, .string ⟨#[]⟩, .string ⟨#[]⟩, .string ⟨#[]⟩, .int .i64 0, .int .i64 0, .int .i64 0, .int .i64 0, .slice none 0 0, .int .i64 0, .slice none 0 0] 28)) := (Below.refl _ _).alloc (Nat.le_refl _) _
  have hT0 := Blk.new w 28 #[.int .i64 0, .int .i64 0, .int .u32 0, .int .i64 0, .string ⟨#[]⟩, .string ⟨#[]⟩, .string ⟨#[]⟩, .int .i64 0, .int .i64 0, .int .i64 0, .int .i64 0, .slice none 0 0, .int .i64 0, .slice none 0 0]
  have HB0 := Lib.hid hb0
  have HT0 := Lib.hid hT0
  clear hb0 hT0
  go_enter Tryz.func31, Tryz.ntmps31
  go_upto_region 1 with fail
  generalize hw0 : w.alloc _ = w0 at HB0 HT0 ⊢
  have HP0 := Lib.hid (h.below HB0.out)
  have HE0 := Lib.hid (he.below HB0.out)
  clear hw0 h he
  cases l with
  | nil =>
    have HF : Hid (res = none) := Lib.hid (by rw [← HRES.out]; rfl)
    go_wp2_with fail
    refine (next_none pg w0 HP0.out).mono ?_
    rintro e w1 ⟨rfl, hg⟩
    have HG1 : Hid (w.grownBy w1 (some pg)) := gb_trans (gb_below pg HB0.out) hg
    clear hg
    go_wp2_with fail
    refine ⟨rfl, ?_⟩
    rw [HF.out]
    exact ⟨rfl, HG1.out⟩
  | cons p r =>
    have HR1 : Hid (res = (findW p verbWords 0).bind fun v => (verbP v r).bind fun x => if x.2 = [] then some x.1 else none) := Lib.hid (by rw [← HRES.out]; rfl)
    have HLr : Hid (∀ p ∈ r, p.length ≤ 4096) := Lib.hid fun q hq => HL.out q (List.mem_cons_of_mem _ hq)
    have HNr : Hid (r.length ≤ 4097) := Lib.hid (by simp only [List.length_cons] at hn; omega)
    clear hn
    go_wp2_with fail
    refine (next_some pg p r w0 HP0.out).mono ?_
    rintro e w1 ⟨rfl, hg, hp1⟩
    have HG1 : Hid (w.grownBy w1 (some pg)) := gb_trans (gb_below pg HB0.out) hg
    have HP1 := Lib.hid hp1
    have HE1 := Lib.hid (HE0.out.gb hg H6.out)
    have HT1 : Hid (Blk w1 w.heap.size 28 _) := HT0.out.gb hg (Nat.ne_of_gt HPL.out)
    clear hg hp1
    go_wp2_with fail
    refine (verbs_any w1).mono ?_
    rintro e w3 ⟨g, rfl, -, hgl, hall, hb3⟩
    have HP3 := Lib.hid (HP1.out.below hb3)
    have HE3 := Lib.hid (HE1.out.below hb3)
    have HT3 : Hid (Blk w3 w.heap.size 28 _) := HT1.out.below hb3 HT1.out.lt
    have HG3 : Hid (w.grownBy w3 (some pg)) := gb_trans HG1.out (gb_below pg hb3)
    have HALL := Lib.hid hall
    clear hb3 hall
    go_wp2_with fail
    go_loopw [11] (fun s11 wr => ∃ k : Nat, k ≤ 11 ∧ s11 = .int .i64 (k : Int) ∧ Hid (∀ i, i < k → verbWords[i]? ≠ some p) ∧ Hid (Below w3.heap.size w3 wr)) (fun s11 _ => 11 - (intOf s11).toNat)
    case atStart => exact ⟨0, by omega, rfl, Lib.hid (fun i hi => by omega), Below.refl _ _⟩
    case round =>
      obtain ⟨k, hk, rfl, HNO, HBr⟩ := hrel
      by_cases hlt : k < 11
      · have hlt' : (k : Int) < 11 := by omega
        have RS : Hid (∀ (j : Nat) (v : Value), (verbL k)[j]? = some v → wr.cell? ((⟨g, k * 3, none⟩ : Addr).add j) = some v) := Lib.hid (fun j v h => by
          rw [add_flat]
          exact (HBr.out.cell (p := ⟨g, k * 3 + j, none⟩) hgl).trans (HALL.out k hlt j v h))
        go_upto_region 5 with (first
          | ((with_reducible refine at_op ⟨_, .load 54 (.tmp 14), _, _, _, _⟩ ?_); refine wpList_load_list rfl 54 (.tmp 14) rfl ⟨g, k * 3, none⟩ rfl (verbL k) RS.out _ Tryz.underlying54 rfl (by kernel_rfl) ?_)
          | ((with_reducible refine at_op ⟨_, .store 54 (.tmp 5) (.tmp 15), _, _, _, _⟩ ?_); refine wpList_store_blk rfl 54 (.tmp 5) (.tmp 15) rfl wr.heap.size 0 rfl (verbL k) rfl (verbL_one k) 54 #[.string ⟨#[]⟩, .nilFunc, .nilFunc] (Blk.new wr 54 #[.string ⟨#[]⟩, .nilFunc, .nilFunc]) (show 0 + 3 ≤ 3 from Nat.le_refl 3) (by kernel_rfl) ?_; intro w4 hT4 hg4 hs4; have HT4 := Lib.hid hT4; have HG4 := Lib.hid hg4; have HS4 := Lib.hid hs4; clear hT4 hg4 hs4)
          | fail)
        have hbb : Below wr.heap.size wr w4 := below_gb ((Below.refl _ _).alloc (Nat.le_refl _) _) HG4.out (le_alloc _ (Nat.le_refl _)) (Nat.le_refl _)
        have HB4 : Hid (Below w3.heap.size w3 w4) := HBr.out.trans (hbb.mono HBr.out.size)
        obtain ⟨wk, hwk⟩ : ∃ x, verbWords.getD k [] = x := ⟨_, rfl⟩
        have q0 : w4.cell? ⟨wr.heap.size, 0, none⟩ = some (.string (S wk)) := by rw [← hwk]; exact (HT4.out.cell 0).trans (by simp [putFrom, verbL])
        have q2 : w4.cell? ⟨wr.heap.size, 2, none⟩ = some (.func (.func (rdF k)) #[] #[]) := (HT4.out.cell 2).trans (by simp [putFrom, verbL])
        have HW := Lib.hid hwk
        clear hbb hwk RS HT4 HG4 HS4
        by_cases he : wk = p
        · subst he
          have HFW : Hid (findW wk verbWords 0 = some k) := Lib.hid (by rw [← HW.out]; exact findW_verb k hlt)
          have HR2 : Hid (res = (verbP k r).bind fun x => if x.2 = [] then some x.1 else none) := Lib.hid (by rw [HR1.out, HFW.out]; rfl)
          have hT5 : Blk (w4.alloc (.cells #[.int .i64 (k : Int), .int .i64 0, .int .u32 0, .int .i64 0, .string ⟨#[]⟩, .string ⟨#[]⟩, .string ⟨#[]⟩, .int .i64 0, .int .i64 0, .int .i64 0, .int .i64 0, .slice none 0 0, .int .i64 0, .slice none 0 0] 28)) w4.heap.size 28 (cmdC { cmd0 with verb := k } nilS nilS) := Blk.new w4 _ _
          have hb5 : Below w4.heap.size w4 (w4.alloc (.cells #[.int .i64 (k : Int), .int .i64 0, .int .u32 0, .int .i64 0, .string ⟨#[]⟩, .string ⟨#[]⟩, .string ⟨#[]⟩, .int .i64 0, .int .i64 0, .int .i64 0, .int .i64 0, .slice none 0 0, .int .i64 0, .slice none 0 0] 28)) := (Below.refl _ _).alloc (Nat.le_refl _) _
          have HT5 := Lib.hid hT5
          have HB5 := Lib.hid hb5
          clear hT5 hb5
          go_upto_region 7 with fail
          generalize hw5 : w4.alloc _ = w5 at HT5 HB5 ⊢
          clear hw5
          have HB35 : Hid (Below w3.heap.size w3 w5) := HB4.out.trans (HB5.out.mono HB4.out.size)
          have q2' : w5.cell? ⟨wr.heap.size, 2, none⟩ = some (.func (.func (rdF k)) #[] #[]) := (cell_below HB5.out q2).trans q2
          have HRL : Hid (w.heap.size < w4.heap.size) := Nat.lt_of_lt_of_le HT3.out.lt HB4.out.size
          have HPB : Hid (pg < w4.heap.size) := Lib.hid (Nat.lt_trans HPL.out HRL.out)
          have HG5 : Hid (w.grownBy w5 (some pg)) := gb_trans HG3.out (gb_below pg HB35.out)
          have HT35 : Hid (Blk w5 w.heap.size 28 _) := HT3.out.below HB35.out HT3.out.lt
          have HSZ : Hid (w.heap.size ≤ w5.heap.size) := Lib.hid HG5.out.size
          have HFA := Lib.hid (verbR_any k hlt w4.heap.size pg r w5 HT5.out HPB.out (HP3.out.below HB35.out) (HE3.out.below HB35.out) HLr.out HNr.out)
          have hcf := rd_enter k
          clear q0 q2
          go_wp2_with fail
          refine HFA.out.mono ?_
          rcases hrd : verbP k r with _ | ⟨c, r'⟩
          · rintro e w6 ⟨rfl, hg6⟩
            have HF : Hid (res = none) := Lib.hid (by rw [HR2.out, hrd]; rfl)
            have HG6 : Hid (w.grownBy w6 (some pg)) := Gb2.back HG5.out hg6 (Nat.le_of_lt HRL.out)
            clear hrd hg6 hcf
            go_wp2_with fail
            refine ⟨rfl, ?_⟩
            rw [HF.out]
            exact ⟨rfl, HG6.out⟩
          · rintro e w6 ⟨rfl, hg6, hp6, sR, sP, ht6, hoR, hoP⟩
            have HR3 : Hid (res = if r' = [] then some c else none) := Lib.hid (by rw [HR2.out, hrd]; rfl)
            have HG6 : Hid (w.grownBy w6 (some pg)) := Gb2.back HG5.out hg6 (Nat.le_of_lt HRL.out)
            have HTR : Hid (Blk w6 w.heap.size 28 _) := hg6.blk HT35.out (Nat.ne_of_gt HPL.out) (Nat.ne_of_lt HRL.out)
            have HT6 := Lib.hid ht6
            have HP6 := Lib.hid hp6
            obtain ⟨X, cX, rfl⟩ := own_sl hoR
            obtain ⟨Y, cY, rfl⟩ := own_sl hoP
            have HOR : Hid (w6.ownsRow w5.heap.size 5 1 _ _ _) := hoR
            have HOP : Hid (w6.ownsRow w5.heap.size 3 1 _ _ _) := hoP
            obtain ⟨A', cap', qp, hcp⟩ := hp6.cell
            clear hrd hg6 hcf hp6 ht6 hoR hoP q2'
            cases r' with
            | cons x r'' =>
              have HF : Hid (res = none) := HR3.out
              rw [List.length_cons] at qp
              go_wp2_with fail
              refine ⟨rfl, ?_⟩
              rw [HF.out]
              exact ⟨rfl, HG6.out⟩
            | nil =>
              have HF : Hid (res = some c) := HR3.out
              rw [List.length_nil] at qp
              go_wp2_with (first
                | ((with_reducible refine at_op ⟨_, .load 28 (.tmp 6), _, _, _, _⟩ ?_); refine wpList_load_list rfl 28 (.tmp 6) rfl ⟨w4.heap.size, 0, none⟩ rfl (cmdL c (.slice X c.raw.length cX) (.slice Y c.picks.length cY)) (cmd_load HT6.out) _ Tryz.underlying28 rfl (by kernel_rfl) ?_)
                | ((with_reducible refine at_op ⟨_, .store 28 (.tmp 2) (.tmp 34), _, _, _, _⟩ ?_); refine wpList_store_blk rfl 28 (.tmp 2) (.tmp 34) rfl w.heap.size 0 rfl (cmdL c (.slice X c.raw.length cX) (.slice Y c.picks.length cY)) rfl (cmdL_one _ _ _ _ _ _ _) 28 _ HTR.out (show 0 + 14 ≤ 14 from Nat.le_refl 14) (by kernel_rfl) ?_; intro w7 hT7 hg7 hs7; have HT7 := Lib.hid hT7; have HG7 := Lib.hid hg7; clear hT7 hg7 hs7)
                | fail)
              have HT9 : Hid (Blk w7 w.heap.size 28 (cmdC c (.slice X c.raw.length cX) (.slice Y c.picks.length cY))) := Lib.hid (by
                have := HT7.out
                rw [put_cmd _ rfl] at this
                exact this)
              refine bodyPost_ret (results_cell_row rfl _ _ w.heap.size 28 _ (0, 0) _ rfl HT9.out Tryz.underlying28 rfl (by kernel_rfl)) rfl ?_
              rw [HF.out]
              exact ⟨_, _, rfl, gb_own HG6.out HG7.out (fun k e => by injection e with e; omega), own_mono (own_gb HOR.out HG7.out HT35.out.lt) HSZ.out, own_mono (own_gb HOP.out HG7.out HT35.out.lt) HSZ.out⟩
        · have hne : ((S wk).toList == (S p).toList) = false := by rw [beq_eq_false_iff_ne, S_list, S_list]; exact he
          have HNO2 : Hid (∀ i, i < k + 1 → verbWords[i]? ≠ some p) := Lib.hid fun i hi => by
            by_cases hik : i = k
            · rw [hik, verbW_get k hlt, HW.out]
              exact fun e => he (Option.some.inj e)
            · exact HNO.out i (by omega)
          clear he
          go_wp2_with fail
          go_roundw
          case rel => exact ⟨k + 1, by omega, by go_num, HNO2, HB4⟩
          case measure => simp [intOf]; omega
      · obtain rfl : k = 11 := by omega
        have HF : Hid (res = none) := Lib.hid (by
          rw [HR1.out, findW_drop p verbWords 0 11 HNO.out]
          rfl)
        have HG4 : Hid (w.grownBy wr (some pg)) := gb_trans HG3.out (gb_below pg HBr.out)
        go_wp2_with fail
        refine ⟨rfl, ?_⟩
        rw [HF.out]
        exact ⟨rfl, HG4.out⟩
end Go.Proofs.YtepalbldleegiaaGreatDoor.sh
