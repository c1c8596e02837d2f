/-
  The document's words of a command, and its look at a request: walked.
  Conditions: numbers as their types have them.
-/
import Derived.Test.YtepalbldleegiaaGreatDoorSze
namespace Go.Proofs.YtepalbldleegiaaGreatDoor.sh
open Go.RowKit
open Go.Lib (itoa decDigits byteCells)

def fb : Fd → UInt8
  | .T => 84 | .K => 75 | .V => 86 | .O => 79 | .N => 78 | .P => 80 | .S => 83
def fieldB (op : Int) : Bs := (fieldsOf op).map fb
def usesB (op : Int) : Bs := if 1 ≤ op ∧ op ≤ 15 then fieldB op else [63]
theorem fieldB_out {op : Int} (h : ¬ (1 ≤ op ∧ op ≤ 15)) : fieldB op = [] := by
  unfold fieldB fieldsOf fieldsN
  split <;> first | rfl | (exfalso; rename_i e; exact h (by omega))
set_option maxHeartbeats 2000000 in
theorem verbW_any (v : Int) (hv : I64 v) (w : World) :
    Calls Tryz.prog 25 #[.int .i64 v] w fun e w' => e = .returned (.string (S (if 0 ≤ v ∧ v ≤ 10 then verbWords.getD v.toNat [] else []))) ∧ Below w.heap.size w w' := by
  by_cases hr : 0 ≤ v ∧ v ≤ 10
  · rcases int_cases11 v hr with rfl | rfl | rfl | rfl | rfl | rfl | rfl | rfl | rfl | rfl | rfl
    all_goals
      go_enter Tryz.func25, Tryz.ntmps25
      go_wp2_with fail
      go_ret
      exact ⟨rfl, (Below.refl _ _).alloc (Nat.le_refl _) _⟩
  · rw [if_neg hr]
    obtain ⟨h0, h1⟩ := hv
    by_cases h2 : 0 ≤ v
    all_goals
      go_enter Tryz.func25, Tryz.ntmps25
      go_wp2_with fail
      go_ret
      exact ⟨rfl, (Below.refl _ _).alloc (Nat.le_refl _) _⟩
theorem fields_any (op : Int) (w : World) :
    Calls Tryz.prog 66 #[.int .i64 op] w fun e w' => e = .returned (.string (S (fieldB op))) ∧ w' = w := by
  by_cases hr : 1 ≤ op ∧ op ≤ 15
  · rcases int_cases15 op hr with rfl | rfl | rfl | rfl | rfl | rfl | rfl | rfl | rfl | rfl | rfl | rfl | rfl | rfl | rfl
    all_goals
      go_enter Tryz.func66, Tryz.ntmps66
      go_wp2_with fail
      go_ret
      exact ⟨rfl, rfl⟩
  · rw [fieldB_out hr]
    have n1 : (op == 1) = false := by rw [beq_eq_false_iff_ne]; omega
    have n2 : (op == 2) = false := by rw [beq_eq_false_iff_ne]; omega
    have n3 : (op == 3) = false := by rw [beq_eq_false_iff_ne]; omega
    have n4 : (op == 4) = false := by rw [beq_eq_false_iff_ne]; omega
    have n5 : (op == 5) = false := by rw [beq_eq_false_iff_ne]; omega
    have n6 : (op == 6) = false := by rw [beq_eq_false_iff_ne]; omega
    have n7 : (op == 7) = false := by rw [beq_eq_false_iff_ne]; omega
    have n8 : (op == 8) = false := by rw [beq_eq_false_iff_ne]; omega
    have n9 : (op == 9) = false := by rw [beq_eq_false_iff_ne]; omega
    have n10 : (op == 10) = false := by rw [beq_eq_false_iff_ne]; omega
    have n11 : (op == 11) = false := by rw [beq_eq_false_iff_ne]; omega
    have n12 : (op == 12) = false := by rw [beq_eq_false_iff_ne]; omega
    have n13 : (op == 13) = false := by rw [beq_eq_false_iff_ne]; omega
    have n14 : (op == 14) = false := by rw [beq_eq_false_iff_ne]; omega
    have n15 : (op == 15) = false := by rw [beq_eq_false_iff_ne]; omega
    go_enter Tryz.func66, Tryz.ntmps66
    go_wp2_with fail
    go_ret
    exact ⟨rfl, rfl⟩
theorem uses_any (op : Int) (w : World) :
    Calls Tryz.prog 85 #[.int .i64 op] w fun e w' => e = .returned (.string (S (usesB op))) ∧ w' = w := by
  by_cases hr : 1 ≤ op ∧ op ≤ 15
  · rcases int_cases15 op hr with rfl | rfl | rfl | rfl | rfl | rfl | rfl | rfl | rfl | rfl | rfl | rfl | rfl | rfl | rfl
    all_goals
      go_enter Tryz.func85, Tryz.ntmps85
      go_wp2_with fail
      go_ret
      exact ⟨rfl, rfl⟩
  · unfold usesB
    rw [if_neg hr]
    have n1 : (op == 1) = false := by rw [beq_eq_false_iff_ne]; omega
    have n2 : (op == 2) = false := by rw [beq_eq_false_iff_ne]; omega
    have n3 : (op == 3) = false := by rw [beq_eq_false_iff_ne]; omega
    have n4 : (op == 4) = false := by rw [beq_eq_false_iff_ne]; omega
    have n5 : (op == 5) = false := by rw [beq_eq_false_iff_ne]; omega
    have n6 : (op == 6) = false := by rw [beq_eq_false_iff_ne]; omega
    have n7 : (op == 7) = false := by rw [beq_eq_false_iff_ne]; omega
    have n8 : (op == 8) = false := by rw [beq_eq_false_iff_ne]; omega
    have n9 : (op == 9) = false := by rw [beq_eq_false_iff_ne]; omega
    have n10 : (op == 10) = false := by rw [beq_eq_false_iff_ne]; omega
    have n11 : (op == 11) = false := by rw [beq_eq_false_iff_ne]; omega
    have n12 : (op == 12) = false := by rw [beq_eq_false_iff_ne]; omega
    have n13 : (op == 13) = false := by rw [beq_eq_false_iff_ne]; omega
    have n14 : (op == 14) = false := by rw [beq_eq_false_iff_ne]; omega
    have n15 : (op == 15) = false := by rw [beq_eq_false_iff_ne]; omega
    go_enter Tryz.func85, Tryz.ntmps85
    go_wp2_with fail
    go_ret
    exact ⟨rfl, rfl⟩

set_option maxRecDepth 100000 in
theorem has_any (l : Bs) (c : UInt8) (n : Int) (hn : (c.toNat : Int) = n) (hl : l.length ≤ 1048576) (w : World) :
    Calls Tryz.prog 86 #[.string (S l), .int .u8 n] w fun e w' => e = .returned (.bool (l.contains c)) ∧ w' = w := by
  subst hn
  have hsz : (S l).size = l.length := rfl
  go_enter Tryz.func86, Tryz.ntmps86
  go_wp2_with fail
  go_loopw [5] (fun i wr => ∃ (j : Nat), j ≤ l.length ∧ i = .int .i64 j ∧ Hid ((l.take j).contains c = false) ∧ wr = w) (fun i _ => l.length - (intOf i).toNat)
  case atStart => exact ⟨0, Nat.zero_le _, rfl, Lib.hid (by simp), rfl⟩
  case round =>
    obtain ⟨j, hj, rfl, HC, rfl⟩ := hrel
    by_cases hlt : j < l.length
    · have hix := S_idx l j hlt
      obtain ⟨d, hd⟩ : ∃ d, l[j] = d := ⟨_, rfl⟩
      rw [hd] at hix
      have HD := Lib.hid hd
      clear hd
      by_cases he : d = c
      · subst he
        have HF : Hid (l.contains d = true) := Lib.hid (by rw [List.contains_iff_mem, ← HD.out]; exact List.getElem_mem hlt)
        go_wp2_with fail
        go_ret
        exact ⟨ret_bool HF.out.symm, rfl⟩
      · have hne : ((d.toNat : Int) == (c.toNat : Int)) = false := by
          rw [beq_eq_false_iff_ne]
          intro h
          exact he (UInt8.toNat_inj.1 (by omega))
        have HN : Hid ((l.take (j + 1)).contains c = false) := Lib.hid (by
          rw [take_snoc _ _ hlt, HD.out]
          have h1 := HC.out
          rw [← Bool.not_eq_true, List.contains_iff_mem] at h1 ⊢
          intro h
          rcases List.mem_append.1 h with h | h
          · exact h1 h
          · rw [List.mem_singleton] at h
            exact he h.symm)
        clear he
        go_wp2_with fail
        go_roundw
        case rel => exact ⟨j + 1, by omega, by go_num, HN, trivial⟩
        case measure => simp [intOf]; omega
    · have HF : Hid (l.contains c = false) := Lib.hid (by have h := HC.out; rwa [List.take_of_length_le (by omega)] at h)
      go_wp2_with fail
      go_ret
      exact ⟨ret_bool HF.out.symm, rfl⟩
theorem fb_inj {a b : Fd} (h : fb a = fb b) : a = b := by cases a <;> cases b <;> first | rfl | (exfalso; revert h; decide)
theorem fieldB_has (op : Int) (f : Fd) : (fieldB op).contains (fb f) = has op f := by
  unfold fieldB has
  rw [Bool.eq_iff_iff, List.contains_iff_mem, List.contains_iff_mem, List.mem_map]
  exact ⟨fun ⟨x, hx, e⟩ => fb_inj e ▸ hx, fun h => ⟨f, h, rfl⟩⟩
/-- the three looks of the document -/
def okA (r : Req) : Bool := decide (1 ≤ r.op) && decide (r.op ≤ 15) && decide (r.topic.length ≤ 24) && decide (r.key.length ≤ 64) && decide (r.value.length ≤ 1024) && decide (0 ≤ r.off) && decide (0 ≤ r.num) && decide (0 ≤ r.pid) && decide (0 ≤ r.seq)
def okB (r : Req) : Bool := (decide (r.topic = []) || has r.op .T) && (decide (r.key = []) || has r.op .K) && (decide (r.value = []) || has r.op .V)
def okC (r : Req) : Bool := (decide (r.off ≤ 0) || has r.op .O) && (decide (r.num ≤ 0) || has r.op .N) && (decide (r.pid ≤ 0) || has r.op .P) && (decide (r.seq ≤ 0) || has r.op .S)
theorem isE_eq (l : Bs) : l.isEmpty = decide (l = []) := by cases l <;> rfl
theorem ok_parts (r : Req) : okReq r = (okA r && okB r && okC r) := by
  rw [Bool.eq_iff_iff]
  simp only [okReq, okA, okB, okC, Bool.and_eq_true, Bool.or_eq_true, decide_eq_true_eq]
  constructor
  · rintro ⟨⟨⟨⟨⟨⟨⟨⟨⟨⟨⟨⟨⟨⟨⟨a1, a2⟩, a3⟩, a4⟩, a5⟩, b1⟩, b2⟩, b3⟩, c1⟩, c2⟩, c3⟩, c4⟩, d1⟩, d2⟩, d3⟩, d4⟩
    refine ⟨⟨⟨⟨⟨⟨⟨⟨⟨⟨a1, a2⟩, a3⟩, a4⟩, a5⟩, c1⟩, c2⟩, c3⟩, c4⟩, ⟨b1.symm, b2.symm⟩, b3.symm⟩, ⟨⟨d1.symm.imp_left ?_, d2.symm.imp_left ?_⟩, d3.symm.imp_left ?_⟩, d4.symm.imp_left ?_⟩ <;> intro h <;> omega
  · rintro ⟨⟨⟨⟨⟨⟨⟨⟨⟨⟨a1, a2⟩, a3⟩, a4⟩, a5⟩, c1⟩, c2⟩, c3⟩, c4⟩, ⟨b1, b2⟩, b3⟩, ⟨⟨d1, d2⟩, d3⟩, d4⟩
    refine ⟨⟨⟨⟨⟨⟨⟨⟨⟨⟨⟨⟨⟨⟨⟨a1, a2⟩, a3⟩, a4⟩, a5⟩, b1.symm⟩, b2.symm⟩, b3.symm⟩, c1⟩, c2⟩, c3⟩, c4⟩, (d1.imp_left ?_).symm⟩, (d2.imp_left ?_).symm⟩, (d3.imp_left ?_).symm⟩, (d4.imp_left ?_).symm⟩ <;> intro h <;> omega
set_option maxRecDepth 100000 in
set_option maxHeartbeats 8000000 in
theorem rcheck_any (r : Req) (w : World) :
    Calls Tryz.prog 63 #[.agg (reqA r)] w fun e w' => e = .returned (.int .i64 (okE r)) ∧ Below w.heap.size w w' := by
  have hT0 := Blk.new w 24 (reqA r)
  have hB0 : Below w.heap.size w (w.alloc (.cells (reqA r) 24)) := (Below.refl _ _).alloc (Nat.le_refl _) _
  have HT0 := Lib.hid hT0
  have HB0 := Lib.hid hB0
  clear hT0 hB0
  unfold reqA at HT0 HB0 ⊢
  obtain ⟨res, hres⟩ : ∃ v, okE r = v := ⟨_, rfl⟩
  rw [hres]
  have HRES := Lib.hid hres
  clear hres
  go_enter Tryz.func63, Tryz.ntmps63
  go_upto_region 1 with fail
  generalize hw0 : w.alloc _ = w0 at HT0 HB0 ⊢
  clear hw0
  have q1 : w0.cell? ⟨w.heap.size, 1, none⟩ = some (.int .i64 r.op) := (HT0.out.cell 1)
  have q2 : w0.cell? ⟨w.heap.size, 2, none⟩ = some (.string (S r.topic)) := (HT0.out.cell 2)
  have q3 : w0.cell? ⟨w.heap.size, 3, none⟩ = some (.string (S r.key)) := (HT0.out.cell 3)
  have q4 : w0.cell? ⟨w.heap.size, 4, none⟩ = some (.string (S r.value)) := (HT0.out.cell 4)
  have q5 : w0.cell? ⟨w.heap.size, 5, none⟩ = some (.int .i64 r.off) := (HT0.out.cell 5)
  have q6 : w0.cell? ⟨w.heap.size, 6, none⟩ = some (.int .i64 r.num) := (HT0.out.cell 6)
  have q7 : w0.cell? ⟨w.heap.size, 7, none⟩ = some (.int .i64 r.pid) := (HT0.out.cell 7)
  have q8 : w0.cell? ⟨w.heap.size, 8, none⟩ = some (.int .i64 r.seq) := (HT0.out.cell 8)
  obtain ⟨a1, hA⟩ : ∃ b, okA r = b := ⟨_, rfl⟩
  obtain ⟨b1, hB⟩ : ∃ b, okB r = b := ⟨_, rfl⟩
  obtain ⟨c1, hC⟩ : ∃ b, okC r = b := ⟨_, rfl⟩
  have HA := Lib.hid hA
  have HB := Lib.hid hB
  have HC := Lib.hid hC
  have HOK : Hid (okReq r = (a1 && b1 && c1)) := Lib.hid (by rw [ok_parts, hA, hB, hC])
  clear hA hB hC
  go_wp2_with fail
  refine (uses_any r.op w0).mono ?_
  rintro e w1 ⟨rfl, rfl⟩
  go_upto_region 2 with fail
  have ht1 : (S r.topic).size = r.topic.length := rfl
  have ht2 : (S r.key).size = r.key.length := rfl
  have ht3 : (S r.value).size = r.value.length := rfl
  obtain ⟨q, hq⟩ : ∃ q, ((S (usesB r.op)).toList == [63]) = q := ⟨_, rfl⟩
  have HQ : Hid (q = !(decide (1 ≤ r.op) && decide (r.op ≤ 15))) := Lib.hid (by
    rw [← hq, S_list]
    unfold usesB
    by_cases h : 1 ≤ r.op ∧ r.op ≤ 15
    · rw [if_pos h, decide_eq_true h.1, decide_eq_true h.2]
      rcases int_cases15 r.op h with h | h | h | h | h | h | h | h | h | h | h | h | h | h | h <;> rw [h] <;> decide
    · rw [if_neg h]
      rcases (by omega : r.op < 1 ∨ 15 < r.op) with h | h
      · rw [decide_eq_false (by omega : ¬ 1 ≤ r.op)]; rfl
      · rw [decide_eq_false (by omega : ¬ r.op ≤ 15), Bool.and_false]; rfl)
  have HQt : Hid (q = true → ¬ (1 ≤ r.op ∧ r.op ≤ 15)) := Lib.hid (fun h => by
    have h1 := HQ.out
    rw [h] at h1
    have h2 := h1.symm
    rw [Bool.not_eq_true'] at h2
    rintro ⟨h3, h4⟩
    rw [decide_eq_true h3, decide_eq_true h4] at h2
    cases h2)
  have HQf : Hid (q = false → 1 ≤ r.op ∧ r.op ≤ 15) := Lib.hid (fun h => by
    have h1 := HQ.out
    rw [h] at h1
    have h2 := h1.symm
    rw [Bool.not_eq_false', Bool.and_eq_true, decide_eq_true_eq, decide_eq_true_eq] at h2
    exact h2)
  go_cut [46] (fun s46 wx => s46 = .bool (!a1) ∧ w1 = wx)
  case first =>
    cases q with
    | true =>
      have HX : Hid (¬ (1 ≤ r.op ∧ r.op ≤ 15)) := Lib.hid (HQt.out rfl)
      have HF : Hid (true = !a1) := Lib.hid (by
        rw [← HA.out]
        unfold okA
        symm
        rw [Bool.not_eq_true', Bool.eq_false_iff]
        intro h
        simp only [Bool.and_eq_true, decide_eq_true_eq] at h
        exact HX.out ⟨h.1.1.1.1.1.1.1.1, h.1.1.1.1.1.1.1.2⟩)
      go_wp2_with fail
      go_meet
      exact ⟨congrArg Value.bool HF.out, rfl⟩
    | false =>
      have HX : Hid (1 ≤ r.op ∧ r.op ≤ 15) := Lib.hid (HQf.out rfl)
      go_wp2_with fail
      all_goals
        go_meet
        refine ⟨congrArg Value.bool ?_, rfl⟩
        have h2 := HA.out
        unfold okA at h2
        rw [← h2, Bool.eq_iff_iff]
        clear h2
        have hx := HX.out
        simp only [Bool.or_eq_true, decide_eq_true_eq, Bool.not_eq_true', Bool.and_eq_false_iff, decide_eq_false_iff_not, true_iff]
        omega
  case rest =>
    obtain ⟨rfl, hwc⟩ := hcut
    subst hwc
    clear hq HQ HQt HQf
    cases a1 with
    | false =>
      have HF : Hid (161 = res) := Lib.hid (by rw [← HRES.out]; unfold okE; rw [HOK.out]; rfl)
      go_wp2_with fail
      go_ret
      exact ⟨by have h := HF.out; subst h; rfl, HB0.out⟩
    | true =>
      have hop : 1 ≤ r.op ∧ r.op ≤ 15 := by
        have h := HA.out
        unfold okA at h
        simp only [Bool.and_eq_true, decide_eq_true_eq] at h
        exact ⟨h.1.1.1.1.1.1.1.1, h.1.1.1.1.1.1.1.2⟩
      have hU : usesB r.op = fieldB r.op := if_pos hop
      have HU : Hid ((usesB r.op).length ≤ 1048576) := Lib.hid (by rw [hU]; unfold fieldB fieldsOf fieldsN; split <;> simp)
      clear hop
      obtain ⟨bT, hbT⟩ : ∃ b, has r.op .T = b := ⟨_, rfl⟩
      have HT : Hid ((usesB r.op).contains (84 : UInt8) = bT) := Lib.hid (by rw [hU, ← hbT]; exact fieldB_has r.op .T)
      obtain ⟨bK, hbK⟩ : ∃ b, has r.op .K = b := ⟨_, rfl⟩
      have HK : Hid ((usesB r.op).contains (75 : UInt8) = bK) := Lib.hid (by rw [hU, ← hbK]; exact fieldB_has r.op .K)
      obtain ⟨bV, hbV⟩ : ∃ b, has r.op .V = b := ⟨_, rfl⟩
      have HV : Hid ((usesB r.op).contains (86 : UInt8) = bV) := Lib.hid (by rw [hU, ← hbV]; exact fieldB_has r.op .V)
      obtain ⟨bO, hbO⟩ : ∃ b, has r.op .O = b := ⟨_, rfl⟩
      have HO : Hid ((usesB r.op).contains (79 : UInt8) = bO) := Lib.hid (by rw [hU, ← hbO]; exact fieldB_has r.op .O)
      obtain ⟨bN, hbN⟩ : ∃ b, has r.op .N = b := ⟨_, rfl⟩
      have HN : Hid ((usesB r.op).contains (78 : UInt8) = bN) := Lib.hid (by rw [hU, ← hbN]; exact fieldB_has r.op .N)
      obtain ⟨bP, hbP⟩ : ∃ b, has r.op .P = b := ⟨_, rfl⟩
      have HP : Hid ((usesB r.op).contains (80 : UInt8) = bP) := Lib.hid (by rw [hU, ← hbP]; exact fieldB_has r.op .P)
      obtain ⟨bS, hbS⟩ : ∃ b, has r.op .S = b := ⟨_, rfl⟩
      have HS : Hid ((usesB r.op).contains (83 : UInt8) = bS) := Lib.hid (by rw [hU, ← hbS]; exact fieldB_has r.op .S)
      obtain ⟨tE, htE⟩ : ∃ b, (S r.topic).toList.isEmpty = b := ⟨_, rfl⟩
      obtain ⟨kE, hkE⟩ : ∃ b, (S r.key).toList.isEmpty = b := ⟨_, rfl⟩
      obtain ⟨vE, hvE⟩ : ∃ b, (S r.value).toList.isEmpty = b := ⟨_, rfl⟩
      have HBB : Hid (b1 = ((tE || bT) && (kE || bK) && (vE || bV))) := Lib.hid (by
        rw [← HB.out]
        unfold okB
        rw [hbT, hbK, hbV, ← htE, ← hkE, ← hvE, S_list, S_list, S_list, isE_eq, isE_eq, isE_eq])
      have HCC : Hid (c1 = ((decide (r.off ≤ 0) || bO) && (decide (r.num ≤ 0) || bN) && (decide (r.pid ≤ 0) || bP) && (decide (r.seq ≤ 0) || bS))) := Lib.hid (by
        rw [← HC.out]
        unfold okC
        rw [hbO, hbN, hbP, hbS])
      clear hbT hbK hbV hbO hbN hbP hbS hU
      go_upto_region 4 with fail
      go_cut [74] (fun s74 wx => s74 = .bool (!b1) ∧ w1 = wx)
      case first =>
        go_wp2_with (first | (go_at_call 86; (with_reducible refine (has_any (usesB r.op) 84 84 rfl HU.out _).mono ?_); rintro e w2 ⟨rfl, rfl⟩; rw [HT.out]) | (go_at_call 86; (with_reducible refine (has_any (usesB r.op) 75 75 rfl HU.out _).mono ?_); rintro e w2 ⟨rfl, rfl⟩; rw [HK.out]) | (go_at_call 86; (with_reducible refine (has_any (usesB r.op) 86 86 rfl HU.out _).mono ?_); rintro e w2 ⟨rfl, rfl⟩; rw [HV.out]) | fail)
        all_goals
          go_meet
          refine ⟨congrArg Value.bool ?_, rfl⟩
          rw [HBB.out]
          simp_all only [Bool.true_or, Bool.false_or, Bool.or_true, Bool.or_false, Bool.true_and, Bool.and_true, Bool.false_and, Bool.and_false, Bool.not_true, Bool.not_false]
      case rest =>
        obtain ⟨rfl, hwc⟩ := hcut
        subst hwc
        clear htE hkE hvE HBB
        cases b1 with
        | false =>
          have HF : Hid (161 = res) := Lib.hid (by rw [← HRES.out]; unfold okE; rw [HOK.out]; rfl)
          go_wp2_with fail
          go_ret
          exact ⟨by have h := HF.out; subst h; rfl, HB0.out⟩
        | true =>
          go_upto_region 6 with fail
          go_cut [112] (fun s112 wx => s112 = .bool (!c1) ∧ w1 = wx)
          case first =>
            clear ht1 ht2 ht3
            go_wp2_with (first | (go_at_call 86; (with_reducible refine (has_any (usesB r.op) 79 79 rfl HU.out _).mono ?_); rintro e w2 ⟨rfl, rfl⟩; rw [HO.out]) | (go_at_call 86; (with_reducible refine (has_any (usesB r.op) 78 78 rfl HU.out _).mono ?_); rintro e w2 ⟨rfl, rfl⟩; rw [HN.out]) | (go_at_call 86; (with_reducible refine (has_any (usesB r.op) 80 80 rfl HU.out _).mono ?_); rintro e w2 ⟨rfl, rfl⟩; rw [HP.out]) | (go_at_call 86; (with_reducible refine (has_any (usesB r.op) 83 83 rfl HU.out _).mono ?_); rintro e w2 ⟨rfl, rfl⟩; rw [HS.out]) | fail)
            all_goals
              go_meet
              refine ⟨congrArg Value.bool ?_, rfl⟩
              rw [HCC.out]
              (try rw [decide_eq_true (show r.off ≤ 0 by omega)])
              (try rw [decide_eq_false (show ¬ r.off ≤ 0 by omega)])
              (try rw [decide_eq_true (show r.num ≤ 0 by omega)])
              (try rw [decide_eq_false (show ¬ r.num ≤ 0 by omega)])
              (try rw [decide_eq_true (show r.pid ≤ 0 by omega)])
              (try rw [decide_eq_false (show ¬ r.pid ≤ 0 by omega)])
              (try rw [decide_eq_true (show r.seq ≤ 0 by omega)])
              (try rw [decide_eq_false (show ¬ r.seq ≤ 0 by omega)])
              simp_all only [Bool.true_or, Bool.false_or, Bool.or_true, Bool.or_false, Bool.true_and, Bool.and_true, Bool.false_and, Bool.and_false, Bool.not_true, Bool.not_false]
          case rest =>
            obtain ⟨rfl, hwc⟩ := hcut
            subst hwc
            cases c1 with
            | false =>
              have HF : Hid (161 = res) := Lib.hid (by rw [← HRES.out]; unfold okE; rw [HOK.out]; rfl)
              go_wp2_with fail
              go_ret
              exact ⟨by have h := HF.out; subst h; rfl, HB0.out⟩
            | true =>
              have HF : Hid (0 = res) := Lib.hid (by rw [← HRES.out]; unfold okE; rw [HOK.out]; rfl)
              go_wp2_with fail
              go_ret
              exact ⟨by have h := HF.out; subst h; rfl, HB0.out⟩
end Go.Proofs.YtepalbldleegiaaGreatDoor.sh
