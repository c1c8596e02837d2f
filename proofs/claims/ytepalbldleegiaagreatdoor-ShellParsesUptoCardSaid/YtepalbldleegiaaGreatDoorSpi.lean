/-
  The program's readers of what stands behind a verb: walked.
  Conditions: parts of at most 4096 bytes, at most 4097 of them; the two errors' variables hold errors.
-/
import Derived.Test.YtepalbldleegiaaGreatDoorSph
namespace Go.Proofs.YtepalbldleegiaaGreatDoor.sh
open Go.RowKit
open Go.Lib (itoa decDigits byteCells atoiAll)

def nilS : Value := .slice none 0 0
def VerbPost (b pg : Nat) (w : World) (o : Option (Cmd × List Bs)) (e : Ending) (w' : World) : Prop :=
  match o with
  | none => e = .panicked am ∧ Gb2 pg b w w'
  | some (c, r) => e = .returned (.tuple #[]) ∧ Gb2 pg b w w' ∧ PartsAt w' pg r ∧ ∃ sR sP, Blk w' b 28 (cmdC c sR sP) ∧ w'.ownsRow w.heap.size 5 1 sR c.raw.length (byteCells c.raw) ∧ w'.ownsRow w.heap.size 3 1 sP c.picks.length (intC c.picks)
theorem vp0 (v : Nat) (hv : v = 0 ∨ v = 1) (ps : List Bs) : verbP v ps = (labelR ps).map fun x => ({ cmd0 with verb := v, conn := x.1 }, x.2) := by
  rcases hv with rfl | rfl <;> cases ps with
  | nil => rfl
  | cons l r => simp only [verbP, labelR]; cases labelP l <;> rfl
theorem vp2 (ps : List Bs) : verbP 2 ps = (labelR ps).bind fun x => (requestP x.2).map fun y => ({ cmd0 with verb := 2, conn := x.1, req := y.1 }, y.2) := by
  cases ps with
  | nil => rfl
  | cons l r => simp only [verbP, labelR]; cases labelP l <;> rfl
theorem vp3 (ps : List Bs) : verbP 3 ps = (labelR ps).bind fun x => (bytesR x.2).map fun y => ({ cmd0 with verb := 3, conn := x.1, raw := y.1 }, y.2) := by
  match ps with
  | [] => rfl
  | [l] => simp only [verbP, labelR]; cases labelP l <;> rfl
  | l :: b :: r =>
    simp only [verbP, labelR]
    cases labelP l with
    | none => rfl
    | some n => simp only [Option.bind_some, Option.map_some, bytesR]; cases bytesP b <;> rfl
theorem vp4 (v : Nat) (hv : v = 4 ∨ v = 7) (ps : List Bs) : verbP v ps = (numR ps).map fun x => ({ cmd0 with verb := v, n := x.1 }, x.2) := by
  rcases hv with rfl | rfl <;> cases ps with
  | nil => rfl
  | cons l r => simp only [verbP, numR]; cases numP l <;> rfl
theorem vp5 (v : Nat) (hv : v = 5 ∨ v = 8) (ps : List Bs) : verbP v ps = (picksP ps).map fun l => ({ cmd0 with verb := v, picks := l }, []) := by
  rcases hv with rfl | rfl <;> rfl
theorem vp6 (ps : List Bs) : verbP 6 ps = (labelR ps).bind fun x => (numR x.2).map fun y => ({ cmd0 with verb := 6, conn := x.1, n := y.1 }, y.2) := by
  match ps with
  | [] => rfl
  | [l] => simp only [verbP, labelR]; cases labelP l <;> rfl
  | l :: b :: r =>
    simp only [verbP, labelR]
    cases labelP l with
    | none => rfl
    | some n => simp only [Option.bind_some, Option.map_some, numR]; cases numP b <;> rfl
theorem vp9 (v : Nat) (hv : v = 9 ∨ v = 10) (ps : List Bs) : verbP v ps = some ({ cmd0 with verb := v }, ps) := by
  rcases hv with rfl | rfl <;> rfl
theorem labelR_tail {l r : List Bs} {n : Int} (h : labelR l = some (n, r)) : ∃ p, l = p :: r := by
  cases l with
  | nil => cases h
  | cons p r' =>
    simp only [labelR, Option.map_eq_some_iff] at h
    obtain ⟨m, hm, e⟩ := h
    injection e with e1 e2
    subst e2
    exact ⟨p, rfl⟩
theorem own_sl {w : World} {B : Nat} {e : TypeId} {s : Nat} {v : Value} {n : Nat} {xs : List Value} (h : w.ownsRow B e s v n xs) : ∃ X cc, v = .slice X n cc := by
  rcases h.2 with ⟨rfl, rfl⟩ | ⟨g, cap, cur, rfl, -⟩
  · exact ⟨none, 0, rfl⟩
  · exact ⟨some ⟨g, 0, none⟩, cap, rfl⟩
theorem own_gb {w w' : World} {B g : Nat} {e : TypeId} {s : Nat} {v : Value} {n : Nat} {xs : List Value} (h : w.ownsRow B e s v n xs) (hg : w.grownBy w' (some g)) (hb : g < B) : w'.ownsRow B e s v n xs :=
  h.kept hg (Or.inr fun e0 => by have := (h.lt _ e0).1; omega)
theorem cmdL_oneQ (q : Req) : ∀ u ∈ reqC q, u.oneCell' = true := reqC_one q
theorem put_q (c : Cmd) (sR sP : Value) (q : Req) : putFrom (cmdC c sR sP) 2 (reqC q) = cmdC { c with req := q } sR sP := by
  simp [putFrom, reqC, cmdC]
set_option maxHeartbeats 4000000
theorem vr0 (b pg : Nat) (l : List Bs) (w : World) (hq : Blk w b 28 (cmdC { cmd0 with verb := 0 } nilS nilS)) (hb : pg < b) (hp : PartsAt w pg l) (he : Errs w) (hl : ∀ p ∈ l, p.length ≤ 4096) :
    Calls Tryz.prog 37 #[.pointer (some ⟨b, 0, none⟩), .pointer (some ⟨pg, 0, none⟩)] w (VerbPost b pg w (verbP 0 l)) := by
  rcases hr : labelR l with _ | ⟨x, r⟩
  · have HF : Hid (verbP 0 l = none) := Lib.hid (by rw [vp0 0 (by decide), hr]; rfl)
    go_enter Tryz.func37, Tryz.ntmps37
    go_wp2_with fail
    refine (label_read pg l w hp he hl).mono ?_
    rw [hr]
    rintro e w1 ⟨rfl, hg⟩
    go_wp2_with fail
    refine ⟨rfl, ?_⟩
    rw [HF.out]
    exact ⟨rfl, Gb2.of hg⟩
  · have HF : Hid (verbP 0 l = some ({ cmd0 with verb := 0, conn := x }, r)) := Lib.hid (by rw [vp0 0 (by decide), hr]; rfl)
    have HN := Lib.hid hr
    clear hr
    go_enter Tryz.func37, Tryz.ntmps37
    go_wp2_with fail
    refine (label_read pg l w hp he hl).mono ?_
    rw [HN.out]
    rintro e w1 ⟨rfl, hg, hp1⟩
    have hq1 := hq.gb hg (Nat.ne_of_gt hb)
    have c1 := hq1.cell 1
    have z1 := hq1.frozen 1
    have HS : Hid (w1.grownBy (w1.setCell ⟨b, 1, none⟩ (.int .i64 x)) (some b)) := gb_setC w1 b 1 _
    have HQ : Hid (Blk (w1.setCell ⟨b, 1, none⟩ (.int .i64 x)) b 28 (cmdC { cmd0 with verb := 0, conn := x } nilS nilS)) := hq1.set_ 1 _
    have HG := Lib.hid hg
    have HP := Lib.hid hp1
    clear hq1 hg hp1
    go_wp2_with fail
    go_end0
    rw [HF.out]
    exact ⟨rfl, (Gb2.of HG.out).trans (Gb2.of' HS.out), parts_far HP.out HS.out hb, nilS, nilS, HQ.out, own_nilV _ _ _ _, own_nilV _ _ _ _⟩
theorem vr1 (b pg : Nat) (l : List Bs) (w : World) (hq : Blk w b 28 (cmdC { cmd0 with verb := 1 } nilS nilS)) (hb : pg < b) (hp : PartsAt w pg l) (he : Errs w) (hl : ∀ p ∈ l, p.length ≤ 4096) :
    Calls Tryz.prog 39 #[.pointer (some ⟨b, 0, none⟩), .pointer (some ⟨pg, 0, none⟩)] w (VerbPost b pg w (verbP 1 l)) := by
  rcases hr : labelR l with _ | ⟨x, r⟩
  · have HF : Hid (verbP 1 l = none) := Lib.hid (by rw [vp0 1 (by decide), hr]; rfl)
    go_enter Tryz.func39, Tryz.ntmps39
    go_wp2_with fail
    refine (label_read pg l w hp he hl).mono ?_
    rw [hr]
    rintro e w1 ⟨rfl, hg⟩
    go_wp2_with fail
    refine ⟨rfl, ?_⟩
    rw [HF.out]
    exact ⟨rfl, Gb2.of hg⟩
  · have HF : Hid (verbP 1 l = some ({ cmd0 with verb := 1, conn := x }, r)) := Lib.hid (by rw [vp0 1 (by decide), hr]; rfl)
    have HN := Lib.hid hr
    clear hr
    go_enter Tryz.func39, Tryz.ntmps39
    go_wp2_with fail
    refine (label_read pg l w hp he hl).mono ?_
    rw [HN.out]
    rintro e w1 ⟨rfl, hg, hp1⟩
    have hq1 := hq.gb hg (Nat.ne_of_gt hb)
    have c1 := hq1.cell 1
    have z1 := hq1.frozen 1
    have HS : Hid (w1.grownBy (w1.setCell ⟨b, 1, none⟩ (.int .i64 x)) (some b)) := gb_setC w1 b 1 _
    have HQ : Hid (Blk (w1.setCell ⟨b, 1, none⟩ (.int .i64 x)) b 28 (cmdC { cmd0 with verb := 1, conn := x } nilS nilS)) := hq1.set_ 1 _
    have HG := Lib.hid hg
    have HP := Lib.hid hp1
    clear hq1 hg hp1
    go_wp2_with fail
    go_end0
    rw [HF.out]
    exact ⟨rfl, (Gb2.of HG.out).trans (Gb2.of' HS.out), parts_far HP.out HS.out hb, nilS, nilS, HQ.out, own_nilV _ _ _ _, own_nilV _ _ _ _⟩
theorem vr2 (b pg : Nat) (l : List Bs) (w : World) (hq : Blk w b 28 (cmdC { cmd0 with verb := 2 } nilS nilS)) (hb : pg < b) (hp : PartsAt w pg l) (he : Errs w) (hl : ∀ p ∈ l, p.length ≤ 4096) :
    Calls Tryz.prog 41 #[.pointer (some ⟨b, 0, none⟩), .pointer (some ⟨pg, 0, none⟩)] w (VerbPost b pg w (verbP 2 l)) := by
  rcases hr : labelR l with _ | ⟨x, r⟩
  · have HF : Hid (verbP 2 l = none) := Lib.hid (by rw [vp2, hr]; rfl)
    go_enter Tryz.func41, Tryz.ntmps41
    go_wp2_with fail
    refine (label_read pg l w hp he hl).mono ?_
    rw [hr]
    rintro e w1 ⟨rfl, hg⟩
    go_wp2_with fail
    refine ⟨rfl, ?_⟩
    rw [HF.out]
    exact ⟨rfl, Gb2.of hg⟩
  · have HFA : Hid (verbP 2 l = (requestP r).map fun y => ({ cmd0 with verb := 2, conn := x, req := y.1 }, y.2)) := Lib.hid (by rw [vp2, hr]; rfl)
    have HL1 : Hid (∀ p ∈ r, p.length ≤ 4096) := Lib.hid (by
      obtain ⟨p0, hp0⟩ := labelR_tail hr
      subst hp0
      exact fun p h => hl p (List.mem_cons_of_mem _ h))
    have HN := Lib.hid hr
    clear hr
    go_enter Tryz.func41, Tryz.ntmps41
    go_wp2_with fail
    refine (label_read pg l w hp he hl).mono ?_
    rw [HN.out]
    rintro e w1 ⟨rfl, hg, hp1⟩
    have HQ1 := Lib.hid (hq.gb hg (Nat.ne_of_gt hb))
    have HP1 := Lib.hid hp1
    have HG1 := Lib.hid hg
    have HE1 := Lib.hid (he.gb hg hp.1)
    clear hg hp1
    go_wp2_with fail
    refine (request_read pg r w1 HP1.out HE1.out HL1.out).mono ?_
    rcases hr2 : requestP r with _ | ⟨y, r2⟩
    · rintro e w2 ⟨rfl, hg2⟩
      have HF : Hid (verbP 2 l = none) := Lib.hid (by rw [HFA.out, hr2]; rfl)
      have HG2 : Hid (w.grownBy w2 (some pg)) := gb_trans HG1.out hg2
      clear hr2 hg2
      go_wp2_with fail
      refine ⟨rfl, ?_⟩
      rw [HF.out]
      exact ⟨rfl, Gb2.of HG2.out⟩
    · rintro e w2 ⟨rfl, hg2, hp2⟩
      have HF : Hid (verbP 2 l = some ({ cmd0 with verb := 2, conn := x, req := y }, r2)) := Lib.hid (by rw [HFA.out, hr2]; rfl)
      have HG2 : Hid (w.grownBy w2 (some pg)) := gb_trans HG1.out hg2
      have hq2 := HQ1.out.gb hg2 (Nat.ne_of_gt hb)
      have HP2 := Lib.hid hp2
      have hg1s := HG1.out.size
      have c1 := hq2.cell 1
      have z1 := hq2.frozen 1
      have HS : Hid (w2.grownBy (w2.setCell ⟨b, 1, none⟩ (.int .i64 x)) (some b)) := gb_setC w2 b 1 _
      have HQ3 : Hid (Blk (w2.setCell ⟨b, 1, none⟩ (.int .i64 x)) b 28 (cmdC { cmd0 with verb := 2, conn := x } nilS nilS)) := hq2.set_ 1 _
      have HRA : Hid (reqA y = (reqC y).toArray) := Lib.hid (by simp [reqA, reqC])
      rw [HRA.out]
      clear hr2 hg2 hp2 hq2 hg1s
      go_wp2_with (first
        | ((with_reducible refine at_op ⟨_, .store 24 (.tmp 13) (.tmp 9), _, _, _, _⟩ ?_); refine wpList_store_blk rfl 24 (.tmp 13) (.tmp 9) rfl b 2 rfl (reqC y) rfl (reqC_one y) 28 _ HQ3.out (show 2 + 9 ≤ 14 by decide) (by kernel_rfl) ?_; intro w4 hT4 hg4 hs4; have HT4 : Hid (Blk w4 b 28 (cmdC { cmd0 with verb := 2, conn := x, req := y } nilS nilS)) := Lib.hid (by rw [put_q] at hT4; exact hT4); have HG4 := Lib.hid hg4; clear hT4 hg4 hs4)
        | fail)
      go_end0
      rw [HF.out]
      exact ⟨rfl, ((Gb2.of HG2.out).trans (Gb2.of' HS.out)).trans (Gb2.of' HG4.out), parts_far (parts_far HP2.out HS.out hb) HG4.out hb, nilS, nilS, HT4.out, own_nilV _ _ _ _, own_nilV _ _ _ _⟩
theorem vr3 (b pg : Nat) (l : List Bs) (w : World) (hq : Blk w b 28 (cmdC { cmd0 with verb := 3 } nilS nilS)) (hb : pg < b) (hp : PartsAt w pg l) (he : Errs w) (hl : ∀ p ∈ l, p.length ≤ 4096) :
    Calls Tryz.prog 44 #[.pointer (some ⟨b, 0, none⟩), .pointer (some ⟨pg, 0, none⟩)] w (VerbPost b pg w (verbP 3 l)) := by
  rcases hr : labelR l with _ | ⟨x, r⟩
  · have HF : Hid (verbP 3 l = none) := Lib.hid (by rw [vp3, hr]; rfl)
    go_enter Tryz.func44, Tryz.ntmps44
    go_wp2_with fail
    refine (label_read pg l w hp he hl).mono ?_
    rw [hr]
    rintro e w1 ⟨rfl, hg⟩
    go_wp2_with fail
    refine ⟨rfl, ?_⟩
    rw [HF.out]
    exact ⟨rfl, Gb2.of hg⟩
  · have HFA : Hid (verbP 3 l = (bytesR r).map fun y => ({ cmd0 with verb := 3, conn := x, raw := y.1 }, y.2)) := Lib.hid (by rw [vp3, hr]; rfl)
    have HL1 : Hid (∀ p ∈ r, p.length ≤ 4096) := Lib.hid (by
      obtain ⟨p0, hp0⟩ := labelR_tail hr
      subst hp0
      exact fun p h => hl p (List.mem_cons_of_mem _ h))
    have HN := Lib.hid hr
    clear hr
    go_enter Tryz.func44, Tryz.ntmps44
    go_wp2_with fail
    refine (label_read pg l w hp he hl).mono ?_
    rw [HN.out]
    rintro e w1 ⟨rfl, hg, hp1⟩
    have HQ1 := Lib.hid (hq.gb hg (Nat.ne_of_gt hb))
    have HP1 := Lib.hid hp1
    have HG1 := Lib.hid hg
    have HE1 := Lib.hid (he.gb hg hp.1)
    clear hg hp1
    go_wp2_with fail
    refine (bytes_any pg r w1 HP1.out HL1.out).mono ?_
    rcases hr2 : bytesR r with _ | ⟨y, r2⟩
    · rintro e w2 ⟨rfl, hg2⟩
      have HF : Hid (verbP 3 l = none) := Lib.hid (by rw [HFA.out, hr2]; rfl)
      have HG2 : Hid (w.grownBy w2 (some pg)) := gb_trans HG1.out hg2
      clear hr2 hg2
      go_wp2_with fail
      refine ⟨rfl, ?_⟩
      rw [HF.out]
      exact ⟨rfl, Gb2.of HG2.out⟩
    · rintro e w2 ⟨v, rfl, hg2, hp2, ho⟩
      have HF : Hid (verbP 3 l = some ({ cmd0 with verb := 3, conn := x, raw := y }, r2)) := Lib.hid (by rw [HFA.out, hr2]; rfl)
      have HG2 : Hid (w.grownBy w2 (some pg)) := gb_trans HG1.out hg2
      have hq2 := HQ1.out.gb hg2 (Nat.ne_of_gt hb)
      have HP2 := Lib.hid hp2
      have hg1s := HG1.out.size
      obtain ⟨X, cc, rfl⟩ := own_sl ho
      have c1 := hq2.cell 1
      have z1 := hq2.frozen 1
      have HS : Hid (w2.grownBy (w2.setCell ⟨b, 1, none⟩ (.int .i64 x)) (some b)) := gb_setC w2 b 1 _
      have hq3 : Blk (w2.setCell ⟨b, 1, none⟩ (.int .i64 x)) b 28 (cmdC { cmd0 with verb := 3, conn := x } nilS nilS) := hq2.set_ 1 _
      have c2 := hq3.cell 11
      have z2 := hq3.frozen 11
      have HS2 : Hid ((w2.setCell ⟨b, 1, none⟩ (.int .i64 x)).grownBy ((w2.setCell ⟨b, 1, none⟩ (.int .i64 x)).setCell ⟨b, 11, none⟩ (.slice X y.length cc)) (some b)) := gb_setC _ b 11 _
      have HQ : Hid (Blk ((w2.setCell ⟨b, 1, none⟩ (.int .i64 x)).setCell ⟨b, 11, none⟩ (.slice X y.length cc)) b 28 (cmdC { cmd0 with verb := 3, conn := x, raw := y } (.slice X y.length cc) nilS)) := hq3.set_ 11 _
      have HO : Hid (((w2.setCell ⟨b, 1, none⟩ (.int .i64 x)).setCell ⟨b, 11, none⟩ (.slice X y.length cc)).ownsRow w.heap.size 5 1 (.slice X y.length cc) y.length (byteCells y)) := own_gb (own_gb (own_mono ho hg1s) HS.out hq.lt) HS2.out hq.lt
      clear hr2 hg2 hp2 hq2 hq3 ho hg1s
      go_wp2_with fail
      go_end0
      rw [HF.out]
      exact ⟨rfl, ((Gb2.of HG2.out).trans (Gb2.of' HS.out)).trans (Gb2.of' HS2.out), parts_far (parts_far HP2.out HS.out hb) HS2.out hb, _, nilS, HQ.out, HO.out, own_nilV _ _ _ _⟩
theorem vr4 (b pg : Nat) (l : List Bs) (w : World) (hq : Blk w b 28 (cmdC { cmd0 with verb := 4 } nilS nilS)) (hb : pg < b) (hp : PartsAt w pg l) (he : Errs w) (hl : ∀ p ∈ l, p.length ≤ 4096) :
    Calls Tryz.prog 47 #[.pointer (some ⟨b, 0, none⟩), .pointer (some ⟨pg, 0, none⟩)] w (VerbPost b pg w (verbP 4 l)) := by
  rcases hr : numR l with _ | ⟨x, r⟩
  · have HF : Hid (verbP 4 l = none) := Lib.hid (by rw [vp4 4 (by decide), hr]; rfl)
    go_enter Tryz.func47, Tryz.ntmps47
    go_wp2_with fail
    refine (numR_any pg l w hp he hl).mono ?_
    rw [hr]
    rintro e w1 ⟨rfl, hg⟩
    go_wp2_with fail
    refine ⟨rfl, ?_⟩
    rw [HF.out]
    exact ⟨rfl, Gb2.of hg⟩
  · have HF : Hid (verbP 4 l = some ({ cmd0 with verb := 4, n := x }, r)) := Lib.hid (by rw [vp4 4 (by decide), hr]; rfl)
    have HN := Lib.hid hr
    clear hr
    go_enter Tryz.func47, Tryz.ntmps47
    go_wp2_with fail
    refine (numR_any pg l w hp he hl).mono ?_
    rw [HN.out]
    rintro e w1 ⟨rfl, hg, hp1⟩
    have hq1 := hq.gb hg (Nat.ne_of_gt hb)
    have c1 := hq1.cell 12
    have z1 := hq1.frozen 12
    have HS : Hid (w1.grownBy (w1.setCell ⟨b, 12, none⟩ (.int .i64 x)) (some b)) := gb_setC w1 b 12 _
    have HQ : Hid (Blk (w1.setCell ⟨b, 12, none⟩ (.int .i64 x)) b 28 (cmdC { cmd0 with verb := 4, n := x } nilS nilS)) := hq1.set_ 12 _
    have HG := Lib.hid hg
    have HP := Lib.hid hp1
    clear hq1 hg hp1
    go_wp2_with fail
    go_end0
    rw [HF.out]
    exact ⟨rfl, (Gb2.of HG.out).trans (Gb2.of' HS.out), parts_far HP.out HS.out hb, nilS, nilS, HQ.out, own_nilV _ _ _ _, own_nilV _ _ _ _⟩
theorem vr5 (b pg : Nat) (l : List Bs) (w : World) (hq : Blk w b 28 (cmdC { cmd0 with verb := 5 } nilS nilS)) (hb : pg < b) (hp : PartsAt w pg l) (he : Errs w) (hl : ∀ p ∈ l, p.length ≤ 4096) (hn : l.length ≤ 4097) :
    Calls Tryz.prog 50 #[.pointer (some ⟨b, 0, none⟩), .pointer (some ⟨pg, 0, none⟩)] w (VerbPost b pg w (verbP 5 l)) := by
  rcases hr : picksP l with _ | x
  · have HF : Hid (verbP 5 l = none) := Lib.hid (by rw [vp5 5 (by decide), hr]; rfl)
    go_enter Tryz.func50, Tryz.ntmps50
    go_wp2_with fail
    refine (picks_read pg l w hp he hl hn).mono ?_
    rw [hr]
    rintro e w1 ⟨rfl, hg⟩
    go_wp2_with fail
    refine ⟨rfl, ?_⟩
    rw [HF.out]
    exact ⟨rfl, Gb2.of hg⟩
  · have HF : Hid (verbP 5 l = some ({ cmd0 with verb := 5, picks := x }, [])) := Lib.hid (by rw [vp5 5 (by decide), hr]; rfl)
    have HN := Lib.hid hr
    clear hr
    go_enter Tryz.func50, Tryz.ntmps50
    go_wp2_with fail
    refine (picks_read pg l w hp he hl hn).mono ?_
    rw [HN.out]
    rintro e w1 ⟨v, rfl, hg, hp1, ho⟩
    obtain ⟨X, cc, rfl⟩ := own_sl ho
    have hq1 := hq.gb hg (Nat.ne_of_gt hb)
    have c1 := hq1.cell 13
    have z1 := hq1.frozen 13
    have HS : Hid (w1.grownBy (w1.setCell ⟨b, 13, none⟩ (.slice X x.length cc)) (some b)) := gb_setC w1 b 13 _
    have HQ : Hid (Blk (w1.setCell ⟨b, 13, none⟩ (.slice X x.length cc)) b 28 (cmdC { cmd0 with verb := 5, picks := x } nilS (.slice X x.length cc))) := hq1.set_ 13 _
    have HO : Hid ((w1.setCell ⟨b, 13, none⟩ (.slice X x.length cc)).ownsRow w.heap.size 3 1 (.slice X x.length cc) x.length (intC x)) := own_gb ho HS.out hq.lt
    have HG := Lib.hid hg
    have HP := Lib.hid hp1
    clear hq1 hg hp1 ho
    go_wp2_with fail
    go_end0
    rw [HF.out]
    exact ⟨rfl, (Gb2.of HG.out).trans (Gb2.of' HS.out), parts_far HP.out HS.out hb, nilS, _, HQ.out, own_nilV _ _ _ _, HO.out⟩
theorem vr6 (b pg : Nat) (l : List Bs) (w : World) (hq : Blk w b 28 (cmdC { cmd0 with verb := 6 } nilS nilS)) (hb : pg < b) (hp : PartsAt w pg l) (he : Errs w) (hl : ∀ p ∈ l, p.length ≤ 4096) :
    Calls Tryz.prog 53 #[.pointer (some ⟨b, 0, none⟩), .pointer (some ⟨pg, 0, none⟩)] w (VerbPost b pg w (verbP 6 l)) := by
  rcases hr : labelR l with _ | ⟨x, r⟩
  · have HF : Hid (verbP 6 l = none) := Lib.hid (by rw [vp6, hr]; rfl)
    go_enter Tryz.func53, Tryz.ntmps53
    go_wp2_with fail
    refine (label_read pg l w hp he hl).mono ?_
    rw [hr]
    rintro e w1 ⟨rfl, hg⟩
    go_wp2_with fail
    refine ⟨rfl, ?_⟩
    rw [HF.out]
    exact ⟨rfl, Gb2.of hg⟩
  · have HFA : Hid (verbP 6 l = (numR r).map fun y => ({ cmd0 with verb := 6, conn := x, n := y.1 }, y.2)) := Lib.hid (by rw [vp6, hr]; rfl)
    have HL1 : Hid (∀ p ∈ r, p.length ≤ 4096) := Lib.hid (by
      obtain ⟨p0, hp0⟩ := labelR_tail hr
      subst hp0
      exact fun p h => hl p (List.mem_cons_of_mem _ h))
    have HN := Lib.hid hr
    clear hr
    go_enter Tryz.func53, Tryz.ntmps53
    go_wp2_with fail
    refine (label_read pg l w hp he hl).mono ?_
    rw [HN.out]
    rintro e w1 ⟨rfl, hg, hp1⟩
    have HQ1 := Lib.hid (hq.gb hg (Nat.ne_of_gt hb))
    have HP1 := Lib.hid hp1
    have HG1 := Lib.hid hg
    have HE1 := Lib.hid (he.gb hg hp.1)
    clear hg hp1
    go_wp2_with fail
    refine (numR_any pg r w1 HP1.out HE1.out HL1.out).mono ?_
    rcases hr2 : numR r with _ | ⟨y, r2⟩
    · rintro e w2 ⟨rfl, hg2⟩
      have HF : Hid (verbP 6 l = none) := Lib.hid (by rw [HFA.out, hr2]; rfl)
      have HG2 : Hid (w.grownBy w2 (some pg)) := gb_trans HG1.out hg2
      clear hr2 hg2
      go_wp2_with fail
      refine ⟨rfl, ?_⟩
      rw [HF.out]
      exact ⟨rfl, Gb2.of HG2.out⟩
    · rintro e w2 ⟨rfl, hg2, hp2⟩
      have HF : Hid (verbP 6 l = some ({ cmd0 with verb := 6, conn := x, n := y }, r2)) := Lib.hid (by rw [HFA.out, hr2]; rfl)
      have HG2 : Hid (w.grownBy w2 (some pg)) := gb_trans HG1.out hg2
      have hq2 := HQ1.out.gb hg2 (Nat.ne_of_gt hb)
      have HP2 := Lib.hid hp2
      have hg1s := HG1.out.size
      have c1 := hq2.cell 1
      have z1 := hq2.frozen 1
      have HS : Hid (w2.grownBy (w2.setCell ⟨b, 1, none⟩ (.int .i64 x)) (some b)) := gb_setC w2 b 1 _
      have hq3 : Blk (w2.setCell ⟨b, 1, none⟩ (.int .i64 x)) b 28 (cmdC { cmd0 with verb := 6, conn := x } nilS nilS) := hq2.set_ 1 _
      have c2 := hq3.cell 12
      have z2 := hq3.frozen 12
      have HS2 : Hid ((w2.setCell ⟨b, 1, none⟩ (.int .i64 x)).grownBy ((w2.setCell ⟨b, 1, none⟩ (.int .i64 x)).setCell ⟨b, 12, none⟩ (.int .i64 y)) (some b)) := gb_setC _ b 12 _
      have HQ : Hid (Blk ((w2.setCell ⟨b, 1, none⟩ (.int .i64 x)).setCell ⟨b, 12, none⟩ (.int .i64 y)) b 28 (cmdC { cmd0 with verb := 6, conn := x, n := y } nilS nilS)) := hq3.set_ 12 _
      clear hr2 hg2 hp2 hq2 hq3 hg1s
      go_wp2_with fail
      go_end0
      rw [HF.out]
      exact ⟨rfl, ((Gb2.of HG2.out).trans (Gb2.of' HS.out)).trans (Gb2.of' HS2.out), parts_far (parts_far HP2.out HS.out hb) HS2.out hb, nilS, nilS, HQ.out, own_nilV _ _ _ _, own_nilV _ _ _ _⟩
theorem vr7 (b pg : Nat) (l : List Bs) (w : World) (hq : Blk w b 28 (cmdC { cmd0 with verb := 7 } nilS nilS)) (hb : pg < b) (hp : PartsAt w pg l) (he : Errs w) (hl : ∀ p ∈ l, p.length ≤ 4096) :
    Calls Tryz.prog 54 #[.pointer (some ⟨b, 0, none⟩), .pointer (some ⟨pg, 0, none⟩)] w (VerbPost b pg w (verbP 7 l)) := by
  rcases hr : numR l with _ | ⟨x, r⟩
  · have HF : Hid (verbP 7 l = none) := Lib.hid (by rw [vp4 7 (by decide), hr]; rfl)
    go_enter Tryz.func54, Tryz.ntmps54
    go_wp2_with fail
    refine (numR_any pg l w hp he hl).mono ?_
    rw [hr]
    rintro e w1 ⟨rfl, hg⟩
    go_wp2_with fail
    refine ⟨rfl, ?_⟩
    rw [HF.out]
    exact ⟨rfl, Gb2.of hg⟩
  · have HF : Hid (verbP 7 l = some ({ cmd0 with verb := 7, n := x }, r)) := Lib.hid (by rw [vp4 7 (by decide), hr]; rfl)
    have HN := Lib.hid hr
    clear hr
    go_enter Tryz.func54, Tryz.ntmps54
    go_wp2_with fail
    refine (numR_any pg l w hp he hl).mono ?_
    rw [HN.out]
    rintro e w1 ⟨rfl, hg, hp1⟩
    have hq1 := hq.gb hg (Nat.ne_of_gt hb)
    have c1 := hq1.cell 12
    have z1 := hq1.frozen 12
    have HS : Hid (w1.grownBy (w1.setCell ⟨b, 12, none⟩ (.int .i64 x)) (some b)) := gb_setC w1 b 12 _
    have HQ : Hid (Blk (w1.setCell ⟨b, 12, none⟩ (.int .i64 x)) b 28 (cmdC { cmd0 with verb := 7, n := x } nilS nilS)) := hq1.set_ 12 _
    have HG := Lib.hid hg
    have HP := Lib.hid hp1
    clear hq1 hg hp1
    go_wp2_with fail
    go_end0
    rw [HF.out]
    exact ⟨rfl, (Gb2.of HG.out).trans (Gb2.of' HS.out), parts_far HP.out HS.out hb, nilS, nilS, HQ.out, own_nilV _ _ _ _, own_nilV _ _ _ _⟩
theorem vr8 (b pg : Nat) (l : List Bs) (w : World) (hq : Blk w b 28 (cmdC { cmd0 with verb := 8 } nilS nilS)) (hb : pg < b) (hp : PartsAt w pg l) (he : Errs w) (hl : ∀ p ∈ l, p.length ≤ 4096) (hn : l.length ≤ 4097) :
    Calls Tryz.prog 55 #[.pointer (some ⟨b, 0, none⟩), .pointer (some ⟨pg, 0, none⟩)] w (VerbPost b pg w (verbP 8 l)) := by
  rcases hr : picksP l with _ | x
  · have HF : Hid (verbP 8 l = none) := Lib.hid (by rw [vp5 8 (by decide), hr]; rfl)
    go_enter Tryz.func55, Tryz.ntmps55
    go_wp2_with fail
    refine (picks_read pg l w hp he hl hn).mono ?_
    rw [hr]
    rintro e w1 ⟨rfl, hg⟩
    go_wp2_with fail
    refine ⟨rfl, ?_⟩
    rw [HF.out]
    exact ⟨rfl, Gb2.of hg⟩
  · have HF : Hid (verbP 8 l = some ({ cmd0 with verb := 8, picks := x }, [])) := Lib.hid (by rw [vp5 8 (by decide), hr]; rfl)
    have HN := Lib.hid hr
    clear hr
    go_enter Tryz.func55, Tryz.ntmps55
    go_wp2_with fail
    refine (picks_read pg l w hp he hl hn).mono ?_
    rw [HN.out]
    rintro e w1 ⟨v, rfl, hg, hp1, ho⟩
    obtain ⟨X, cc, rfl⟩ := own_sl ho
    have hq1 := hq.gb hg (Nat.ne_of_gt hb)
    have c1 := hq1.cell 13
    have z1 := hq1.frozen 13
    have HS : Hid (w1.grownBy (w1.setCell ⟨b, 13, none⟩ (.slice X x.length cc)) (some b)) := gb_setC w1 b 13 _
    have HQ : Hid (Blk (w1.setCell ⟨b, 13, none⟩ (.slice X x.length cc)) b 28 (cmdC { cmd0 with verb := 8, picks := x } nilS (.slice X x.length cc))) := hq1.set_ 13 _
    have HO : Hid ((w1.setCell ⟨b, 13, none⟩ (.slice X x.length cc)).ownsRow w.heap.size 3 1 (.slice X x.length cc) x.length (intC x)) := own_gb ho HS.out hq.lt
    have HG := Lib.hid hg
    have HP := Lib.hid hp1
    clear hq1 hg hp1 ho
    go_wp2_with fail
    go_end0
    rw [HF.out]
    exact ⟨rfl, (Gb2.of HG.out).trans (Gb2.of' HS.out), parts_far HP.out HS.out hb, nilS, _, HQ.out, own_nilV _ _ _ _, HO.out⟩
theorem vr9 (b pg : Nat) (l : List Bs) (w : World) (hq : Blk w b 28 (cmdC { cmd0 with verb := 9 } nilS nilS)) (hp : PartsAt w pg l) :
    Calls Tryz.prog 57 #[.pointer (some ⟨b, 0, none⟩), .pointer (some ⟨pg, 0, none⟩)] w (VerbPost b pg w (verbP 9 l)) := by
  have HF : Hid (verbP 9 l = some ({ cmd0 with verb := 9 }, l)) := Lib.hid (by rw [vp9 9 (by decide)]; rfl)
  go_enter Tryz.func57, Tryz.ntmps57
  go_wp2_with fail
  first | go_end0 | (refine bodyPost_ret (results_none rfl _ _ _) rfl ?_)
  rw [HF.out]
  exact ⟨rfl, Gb2.of (gb_refl _ _), hp, nilS, nilS, hq, own_nilV _ _ _ _, own_nilV _ _ _ _⟩
theorem vr10 (b pg : Nat) (l : List Bs) (w : World) (hq : Blk w b 28 (cmdC { cmd0 with verb := 10 } nilS nilS)) (hp : PartsAt w pg l) :
    Calls Tryz.prog 58 #[.pointer (some ⟨b, 0, none⟩), .pointer (some ⟨pg, 0, none⟩)] w (VerbPost b pg w (verbP 10 l)) := by
  have HF : Hid (verbP 10 l = some ({ cmd0 with verb := 10 }, l)) := Lib.hid (by rw [vp9 10 (by decide)]; rfl)
  go_enter Tryz.func58, Tryz.ntmps58
  go_wp2_with fail
  first | go_end0 | (refine bodyPost_ret (results_none rfl _ _ _) rfl ?_)
  rw [HF.out]
  exact ⟨rfl, Gb2.of (gb_refl _ _), hp, nilS, nilS, hq, own_nilV _ _ _ _, own_nilV _ _ _ _⟩
end Go.Proofs.YtepalbldleegiaaGreatDoor.sh
