/-
  The program's readers of a request's fields: walked.
  Conditions: parts of at most 4096 bytes; the two errors' variables hold errors.
-/
import Derived.Test.YtepalbldleegiaaGreatDoorSpf
import Derived.Test.YtepalbldleegiaaGreatDoorSzd
import Derived.Test.YtepalbldleegiaaGreatDoorSzc
import Derived.Laws.EntriesVeiled
namespace Go.Proofs.YtepalbldleegiaaGreatDoor.sh
open Go.RowKit
open Go.Lib (itoa decDigits byteCells atoiAll)

/-- but for two blocks all is as it was -/
structure Gb2 (pg b : Nat) (w w' : World) : Prop where
  os : w'.os = w.os
  tape : w'.tape = w.tape
  output : w'.output = w.output
  size : w.heap.size ≤ w'.heap.size
  block : ∀ k, k < w.heap.size → k ≠ pg → k ≠ b → w'.heap[k]? = w.heap[k]?
theorem Gb2.of {pg b : Nat} {w w' : World} (h : w.grownBy w' (some pg)) : Gb2 pg b w w' := ⟨h.os, h.tape, h.output, h.size, fun k hk hn _ => h.block k hk (fun e => hn (by injection e))⟩
theorem Gb2.of' {pg b : Nat} {w w' : World} (h : w.grownBy w' (some b)) : Gb2 pg b w w' := ⟨h.os, h.tape, h.output, h.size, fun k hk _ hn => h.block k hk (fun e => hn (by injection e))⟩
theorem Gb2.trans {pg b : Nat} {x y z : World} (h : Gb2 pg b x y) (k : Gb2 pg b y z) : Gb2 pg b x z := ⟨k.os.trans h.os, k.tape.trans h.tape, k.output.trans h.output, Nat.le_trans h.size k.size, fun i hi h1 h2 => (k.block i (Nat.lt_of_lt_of_le hi h.size) h1 h2).trans (h.block i hi h1 h2)⟩
theorem Gb2.back {pg b : Nat} {w0 w w' : World} (h0 : w0.grownBy w (some pg)) (h : Gb2 pg b w w') (hb : w0.heap.size ≤ b) : w0.grownBy w' (some pg) :=
  ⟨h.os.trans h0.os, h.tape.trans h0.tape, h.output.trans h0.output, Nat.le_trans h0.size h.size, fun k hk hn => (h.block k (Nat.lt_of_lt_of_le hk h0.size) (fun e => hn (by rw [e])) (by omega)).trans (h0.block k hk hn)⟩
theorem Gb2.blk {pg b g : Nat} {w w' : World} {t : TypeId} {cs : Array Value} (h : Gb2 pg b w w') (hB : Blk w g t cs) (h1 : g ≠ pg) (h2 : g ≠ b) : Blk w' g t cs := (h.block g hB.lt h1 h2).trans hB
theorem parts_far {w w' : World} {pg b : Nat} {l : List Bs} (h : PartsAt w pg l) (hg : w.grownBy w' (some b)) (hb : pg < b) : PartsAt w' pg l := h.grown hg (fun k e => by injection e with e; omega)
def readF1 (q : Req) (f : Fd) : List Bs → Option (Req × List Bs)
  | [] => none
  | p :: r => (readF q p f).map fun q' => (q', r)
def FieldPost (b pg : Nat) (w : World) (o : Option (Req × List Bs)) (e : Ending) (w' : World) : Prop :=
  match o with
  | none => e = .panicked am ∧ Gb2 pg b w w'
  | some (q, r) => e = .returned (.tuple #[]) ∧ Gb2 pg b w w' ∧ PartsAt w' pg r ∧ Blk w' b 24 (reqA q)
set_option maxHeartbeats 4000000
theorem readT_any (b pg : Nat) (q : Req) (l : List Bs) (w : World) (hq : Blk w b 24 (reqA q)) (hb : pg < b) (hp : PartsAt w pg l) (hl : ∀ p ∈ l, p.length ≤ 4096) :
    Calls Tryz.prog 91 #[.pointer (some ⟨b, 0, none⟩), .pointer (some ⟨pg, 0, none⟩)] w (FieldPost b pg w (readF1 q .T l)) := by
  rcases hn : textR l with _ | ⟨x, r⟩
  · have HF : Hid (readF1 q .T l = none) := Lib.hid (by
      cases l with
      | nil => rfl
      | cons p r =>
        simp only [textR, Option.map_eq_none_iff] at hn
        simp only [readF1, readF, hn, Option.map_none])
    go_enter Tryz.func91, Tryz.ntmps91
    go_wp2_with fail
    refine (text_read pg l w hp hl).mono ?_
    rw [hn]
    rintro e w1 ⟨rfl, hg⟩
    go_wp2_with fail
    refine ⟨rfl, ?_⟩
    rw [HF.out]
    exact ⟨rfl, Gb2.of hg⟩
  · have HF : Hid (readF1 q .T l = some ({ q with topic := x }, r)) := Lib.hid (by
      cases l with
      | nil => cases hn
      | cons p r' =>
        simp only [textR, Option.map_eq_some_iff] at hn
        obtain ⟨y, hy, e⟩ := hn
        injection e with e1 e2
        subst e1 e2
        simp only [readF1, readF, hy, Option.map_some])
    have HN := Lib.hid hn
    clear hn
    go_enter Tryz.func91, Tryz.ntmps91
    go_wp2_with fail
    refine (text_read pg l w hp hl).mono ?_
    rw [HN.out]
    rintro e w1 ⟨rfl, hg, hp1⟩
    have hq1 := hq.gb hg (Nat.ne_of_gt hb)
    have c1 := hq1.cell 2
    have z1 := hq1.frozen 2
    have HS : Hid (w1.grownBy (w1.setCell ⟨b, 2, none⟩ (.string (S x))) (some b)) := gb_setC w1 b 2 _
    have HQ : Hid (Blk (w1.setCell ⟨b, 2, none⟩ (.string (S x))) b 24 (reqA { q with topic := x })) := hq1.set_ 2 _
    have HG := Lib.hid hg
    have HP := Lib.hid hp1
    clear hq1 hg hp1
    go_wp2_with fail
    go_end0
    rw [HF.out]
    exact ⟨rfl, (Gb2.of HG.out).trans (Gb2.of' HS.out), parts_far HP.out HS.out hb, HQ.out⟩
theorem readK_any (b pg : Nat) (q : Req) (l : List Bs) (w : World) (hq : Blk w b 24 (reqA q)) (hb : pg < b) (hp : PartsAt w pg l) (hl : ∀ p ∈ l, p.length ≤ 4096) :
    Calls Tryz.prog 94 #[.pointer (some ⟨b, 0, none⟩), .pointer (some ⟨pg, 0, none⟩)] w (FieldPost b pg w (readF1 q .K l)) := by
  rcases hn : textR l with _ | ⟨x, r⟩
  · have HF : Hid (readF1 q .K l = none) := Lib.hid (by
      cases l with
      | nil => rfl
      | cons p r =>
        simp only [textR, Option.map_eq_none_iff] at hn
        simp only [readF1, readF, hn, Option.map_none])
    go_enter Tryz.func94, Tryz.ntmps94
    go_wp2_with fail
    refine (text_read pg l w hp hl).mono ?_
    rw [hn]
    rintro e w1 ⟨rfl, hg⟩
    go_wp2_with fail
    refine ⟨rfl, ?_⟩
    rw [HF.out]
    exact ⟨rfl, Gb2.of hg⟩
  · have HF : Hid (readF1 q .K l = some ({ q with key := x }, r)) := Lib.hid (by
      cases l with
      | nil => cases hn
      | cons p r' =>
        simp only [textR, Option.map_eq_some_iff] at hn
        obtain ⟨y, hy, e⟩ := hn
        injection e with e1 e2
        subst e1 e2
        simp only [readF1, readF, hy, Option.map_some])
    have HN := Lib.hid hn
    clear hn
    go_enter Tryz.func94, Tryz.ntmps94
    go_wp2_with fail
    refine (text_read pg l w hp hl).mono ?_
    rw [HN.out]
    rintro e w1 ⟨rfl, hg, hp1⟩
    have hq1 := hq.gb hg (Nat.ne_of_gt hb)
    have c1 := hq1.cell 3
    have z1 := hq1.frozen 3
    have HS : Hid (w1.grownBy (w1.setCell ⟨b, 3, none⟩ (.string (S x))) (some b)) := gb_setC w1 b 3 _
    have HQ : Hid (Blk (w1.setCell ⟨b, 3, none⟩ (.string (S x))) b 24 (reqA { q with key := x })) := hq1.set_ 3 _
    have HG := Lib.hid hg
    have HP := Lib.hid hp1
    clear hq1 hg hp1
    go_wp2_with fail
    go_end0
    rw [HF.out]
    exact ⟨rfl, (Gb2.of HG.out).trans (Gb2.of' HS.out), parts_far HP.out HS.out hb, HQ.out⟩
theorem readV_any (b pg : Nat) (q : Req) (l : List Bs) (w : World) (hq : Blk w b 24 (reqA q)) (hb : pg < b) (hp : PartsAt w pg l) (hl : ∀ p ∈ l, p.length ≤ 4096) :
    Calls Tryz.prog 96 #[.pointer (some ⟨b, 0, none⟩), .pointer (some ⟨pg, 0, none⟩)] w (FieldPost b pg w (readF1 q .V l)) := by
  rcases hn : textR l with _ | ⟨x, r⟩
  · have HF : Hid (readF1 q .V l = none) := Lib.hid (by
      cases l with
      | nil => rfl
      | cons p r =>
        simp only [textR, Option.map_eq_none_iff] at hn
        simp only [readF1, readF, hn, Option.map_none])
    go_enter Tryz.func96, Tryz.ntmps96
    go_wp2_with fail
    refine (text_read pg l w hp hl).mono ?_
    rw [hn]
    rintro e w1 ⟨rfl, hg⟩
    go_wp2_with fail
    refine ⟨rfl, ?_⟩
    rw [HF.out]
    exact ⟨rfl, Gb2.of hg⟩
  · have HF : Hid (readF1 q .V l = some ({ q with value := x }, r)) := Lib.hid (by
      cases l with
      | nil => cases hn
      | cons p r' =>
        simp only [textR, Option.map_eq_some_iff] at hn
        obtain ⟨y, hy, e⟩ := hn
        injection e with e1 e2
        subst e1 e2
        simp only [readF1, readF, hy, Option.map_some])
    have HN := Lib.hid hn
    clear hn
    go_enter Tryz.func96, Tryz.ntmps96
    go_wp2_with fail
    refine (text_read pg l w hp hl).mono ?_
    rw [HN.out]
    rintro e w1 ⟨rfl, hg, hp1⟩
    have hq1 := hq.gb hg (Nat.ne_of_gt hb)
    have c1 := hq1.cell 4
    have z1 := hq1.frozen 4
    have HS : Hid (w1.grownBy (w1.setCell ⟨b, 4, none⟩ (.string (S x))) (some b)) := gb_setC w1 b 4 _
    have HQ : Hid (Blk (w1.setCell ⟨b, 4, none⟩ (.string (S x))) b 24 (reqA { q with value := x })) := hq1.set_ 4 _
    have HG := Lib.hid hg
    have HP := Lib.hid hp1
    clear hq1 hg hp1
    go_wp2_with fail
    go_end0
    rw [HF.out]
    exact ⟨rfl, (Gb2.of HG.out).trans (Gb2.of' HS.out), parts_far HP.out HS.out hb, HQ.out⟩
theorem readO_any (b pg : Nat) (q : Req) (l : List Bs) (w : World) (hq : Blk w b 24 (reqA q)) (hb : pg < b) (hp : PartsAt w pg l) (he : Errs w) (hl : ∀ p ∈ l, p.length ≤ 4096) :
    Calls Tryz.prog 98 #[.pointer (some ⟨b, 0, none⟩), .pointer (some ⟨pg, 0, none⟩)] w (FieldPost b pg w (readF1 q .O l)) := by
  rcases hn : numR l with _ | ⟨x, r⟩
  · have HF : Hid (readF1 q .O l = none) := Lib.hid (by
      cases l with
      | nil => rfl
      | cons p r =>
        simp only [numR, Option.map_eq_none_iff] at hn
        simp only [readF1, readF, hn, Option.map_none])
    go_enter Tryz.func98, Tryz.ntmps98
    go_wp2_with fail
    refine (numR_any pg l w hp he hl).mono ?_
    rw [hn]
    rintro e w1 ⟨rfl, hg⟩
    go_wp2_with fail
    refine ⟨rfl, ?_⟩
    rw [HF.out]
    exact ⟨rfl, Gb2.of hg⟩
  · have HF : Hid (readF1 q .O l = some ({ q with off := x }, r)) := Lib.hid (by
      cases l with
      | nil => cases hn
      | cons p r' =>
        simp only [numR, Option.map_eq_some_iff] at hn
        obtain ⟨y, hy, e⟩ := hn
        injection e with e1 e2
        subst e1 e2
        simp only [readF1, readF, hy, Option.map_some])
    have HN := Lib.hid hn
    clear hn
    go_enter Tryz.func98, Tryz.ntmps98
    go_wp2_with fail
    refine (numR_any pg l w hp he hl).mono ?_
    rw [HN.out]
    rintro e w1 ⟨rfl, hg, hp1⟩
    have hq1 := hq.gb hg (Nat.ne_of_gt hb)
    have c1 := hq1.cell 5
    have z1 := hq1.frozen 5
    have HS : Hid (w1.grownBy (w1.setCell ⟨b, 5, none⟩ (.int .i64 x)) (some b)) := gb_setC w1 b 5 _
    have HQ : Hid (Blk (w1.setCell ⟨b, 5, none⟩ (.int .i64 x)) b 24 (reqA { q with off := x })) := hq1.set_ 5 _
    have HG := Lib.hid hg
    have HP := Lib.hid hp1
    clear hq1 hg hp1
    go_wp2_with fail
    go_end0
    rw [HF.out]
    exact ⟨rfl, (Gb2.of HG.out).trans (Gb2.of' HS.out), parts_far HP.out HS.out hb, HQ.out⟩
theorem readN_any (b pg : Nat) (q : Req) (l : List Bs) (w : World) (hq : Blk w b 24 (reqA q)) (hb : pg < b) (hp : PartsAt w pg l) (he : Errs w) (hl : ∀ p ∈ l, p.length ≤ 4096) :
    Calls Tryz.prog 100 #[.pointer (some ⟨b, 0, none⟩), .pointer (some ⟨pg, 0, none⟩)] w (FieldPost b pg w (readF1 q .N l)) := by
  rcases hn : numR l with _ | ⟨x, r⟩
  · have HF : Hid (readF1 q .N l = none) := Lib.hid (by
      cases l with
      | nil => rfl
      | cons p r =>
        simp only [numR, Option.map_eq_none_iff] at hn
        simp only [readF1, readF, hn, Option.map_none])
    go_enter Tryz.func100, Tryz.ntmps100
    go_wp2_with fail
    refine (numR_any pg l w hp he hl).mono ?_
    rw [hn]
    rintro e w1 ⟨rfl, hg⟩
    go_wp2_with fail
    refine ⟨rfl, ?_⟩
    rw [HF.out]
    exact ⟨rfl, Gb2.of hg⟩
  · have HF : Hid (readF1 q .N l = some ({ q with num := x }, r)) := Lib.hid (by
      cases l with
      | nil => cases hn
      | cons p r' =>
        simp only [numR, Option.map_eq_some_iff] at hn
        obtain ⟨y, hy, e⟩ := hn
        injection e with e1 e2
        subst e1 e2
        simp only [readF1, readF, hy, Option.map_some])
    have HN := Lib.hid hn
    clear hn
    go_enter Tryz.func100, Tryz.ntmps100
    go_wp2_with fail
    refine (numR_any pg l w hp he hl).mono ?_
    rw [HN.out]
    rintro e w1 ⟨rfl, hg, hp1⟩
    have hq1 := hq.gb hg (Nat.ne_of_gt hb)
    have c1 := hq1.cell 6
    have z1 := hq1.frozen 6
    have HS : Hid (w1.grownBy (w1.setCell ⟨b, 6, none⟩ (.int .i64 x)) (some b)) := gb_setC w1 b 6 _
    have HQ : Hid (Blk (w1.setCell ⟨b, 6, none⟩ (.int .i64 x)) b 24 (reqA { q with num := x })) := hq1.set_ 6 _
    have HG := Lib.hid hg
    have HP := Lib.hid hp1
    clear hq1 hg hp1
    go_wp2_with fail
    go_end0
    rw [HF.out]
    exact ⟨rfl, (Gb2.of HG.out).trans (Gb2.of' HS.out), parts_far HP.out HS.out hb, HQ.out⟩
theorem readP_any (b pg : Nat) (q : Req) (l : List Bs) (w : World) (hq : Blk w b 24 (reqA q)) (hb : pg < b) (hp : PartsAt w pg l) (he : Errs w) (hl : ∀ p ∈ l, p.length ≤ 4096) :
    Calls Tryz.prog 102 #[.pointer (some ⟨b, 0, none⟩), .pointer (some ⟨pg, 0, none⟩)] w (FieldPost b pg w (readF1 q .P l)) := by
  rcases hn : numR l with _ | ⟨x, r⟩
  · have HF : Hid (readF1 q .P l = none) := Lib.hid (by
      cases l with
      | nil => rfl
      | cons p r =>
        simp only [numR, Option.map_eq_none_iff] at hn
        simp only [readF1, readF, hn, Option.map_none])
    go_enter Tryz.func102, Tryz.ntmps102
    go_wp2_with fail
    refine (numR_any pg l w hp he hl).mono ?_
    rw [hn]
    rintro e w1 ⟨rfl, hg⟩
    go_wp2_with fail
    refine ⟨rfl, ?_⟩
    rw [HF.out]
    exact ⟨rfl, Gb2.of hg⟩
  · have HF : Hid (readF1 q .P l = some ({ q with pid := x }, r)) := Lib.hid (by
      cases l with
      | nil => cases hn
      | cons p r' =>
        simp only [numR, Option.map_eq_some_iff] at hn
        obtain ⟨y, hy, e⟩ := hn
        injection e with e1 e2
        subst e1 e2
        simp only [readF1, readF, hy, Option.map_some])
    have HN := Lib.hid hn
    clear hn
    go_enter Tryz.func102, Tryz.ntmps102
    go_wp2_with fail
    refine (numR_any pg l w hp he hl).mono ?_
    rw [HN.out]
    rintro e w1 ⟨rfl, hg, hp1⟩
    have hq1 := hq.gb hg (Nat.ne_of_gt hb)
    have c1 := hq1.cell 7
    have z1 := hq1.frozen 7
    have HS : Hid (w1.grownBy (w1.setCell ⟨b, 7, none⟩ (.int .i64 x)) (some b)) := gb_setC w1 b 7 _
    have HQ : Hid (Blk (w1.setCell ⟨b, 7, none⟩ (.int .i64 x)) b 24 (reqA { q with pid := x })) := hq1.set_ 7 _
    have HG := Lib.hid hg
    have HP := Lib.hid hp1
    clear hq1 hg hp1
    go_wp2_with fail
    go_end0
    rw [HF.out]
    exact ⟨rfl, (Gb2.of HG.out).trans (Gb2.of' HS.out), parts_far HP.out HS.out hb, HQ.out⟩
theorem readS_any (b pg : Nat) (q : Req) (l : List Bs) (w : World) (hq : Blk w b 24 (reqA q)) (hb : pg < b) (hp : PartsAt w pg l) (he : Errs w) (hl : ∀ p ∈ l, p.length ≤ 4096) :
    Calls Tryz.prog 104 #[.pointer (some ⟨b, 0, none⟩), .pointer (some ⟨pg, 0, none⟩)] w (FieldPost b pg w (readF1 q .S l)) := by
  rcases hn : numR l with _ | ⟨x, r⟩
  · have HF : Hid (readF1 q .S l = none) := Lib.hid (by
      cases l with
      | nil => rfl
      | cons p r =>
        simp only [numR, Option.map_eq_none_iff] at hn
        simp only [readF1, readF, hn, Option.map_none])
    go_enter Tryz.func104, Tryz.ntmps104
    go_wp2_with fail
    refine (numR_any pg l w hp he hl).mono ?_
    rw [hn]
    rintro e w1 ⟨rfl, hg⟩
    go_wp2_with fail
    refine ⟨rfl, ?_⟩
    rw [HF.out]
    exact ⟨rfl, Gb2.of hg⟩
  · have HF : Hid (readF1 q .S l = some ({ q with seq := x }, r)) := Lib.hid (by
      cases l with
      | nil => cases hn
      | cons p r' =>
        simp only [numR, Option.map_eq_some_iff] at hn
        obtain ⟨y, hy, e⟩ := hn
        injection e with e1 e2
        subst e1 e2
        simp only [readF1, readF, hy, Option.map_some])
    have HN := Lib.hid hn
    clear hn
    go_enter Tryz.func104, Tryz.ntmps104
    go_wp2_with fail
    refine (numR_any pg l w hp he hl).mono ?_
    rw [HN.out]
    rintro e w1 ⟨rfl, hg, hp1⟩
    have hq1 := hq.gb hg (Nat.ne_of_gt hb)
    have c1 := hq1.cell 8
    have z1 := hq1.frozen 8
    have HS : Hid (w1.grownBy (w1.setCell ⟨b, 8, none⟩ (.int .i64 x)) (some b)) := gb_setC w1 b 8 _
    have HQ : Hid (Blk (w1.setCell ⟨b, 8, none⟩ (.int .i64 x)) b 24 (reqA { q with seq := x })) := hq1.set_ 8 _
    have HG := Lib.hid hg
    have HP := Lib.hid hp1
    clear hq1 hg hp1
    go_wp2_with fail
    go_end0
    rw [HF.out]
    exact ⟨rfl, (Gb2.of HG.out).trans (Gb2.of' HS.out), parts_far HP.out HS.out hb, HQ.out⟩
theorem fieldR_any (f : Fd) (b pg : Nat) (q : Req) (l : List Bs) (w : World) (hq : Blk w b 24 (reqA q)) (hb : pg < b) (hp : PartsAt w pg l) (he : Errs w) (hl : ∀ p ∈ l, p.length ≤ 4096) :
    Calls Tryz.prog (fdR f) #[.pointer (some ⟨b, 0, none⟩), .pointer (some ⟨pg, 0, none⟩)] w (FieldPost b pg w (readF1 q f l)) := by
  cases f
  · exact readT_any b pg q l w hq hb hp hl
  · exact readK_any b pg q l w hq hb hp hl
  · exact readV_any b pg q l w hq hb hp hl
  · exact readO_any b pg q l w hq hb hp he hl
  · exact readN_any b pg q l w hq hb hp he hl
  · exact readP_any b pg q l w hq hb hp he hl
  · exact readS_any b pg q l w hq hb hp he hl
end Go.Proofs.YtepalbldleegiaaGreatDoor.sh
