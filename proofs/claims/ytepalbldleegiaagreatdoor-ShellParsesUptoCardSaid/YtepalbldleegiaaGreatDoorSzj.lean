/-
  The document's look at a command: walked.
  Conditions: numbers as their types have them.
-/
import Derived.Test.YtepalbldleegiaaGreatDoorSzi
namespace Go.Proofs.YtepalbldleegiaaGreatDoor.sh
open Go.RowKit
open Go.Lib (itoa decDigits byteCells)

def fine0 (c : Cmd) : Bool := decide (0 ≤ c.verb) && decide (c.verb ≤ 10) && within c
theorem fine_fine0 (c : Cmd) : fine c = (fine0 c && decide (c.raw.length ≤ 4096) && decide (c.picks.length ≤ 4096)) := rfl
def cndA (c : Cmd) : Bool := decide (0 ≤ c.verb ∧ c.verb ≤ 10) && decide (0 ≤ c.conn) && decide (c.conn ≤ 999)
def cndB (c : Cmd) : Bool := (labels c.verb || decide (c.conn ≤ 0)) && (decide (c.verb = 3) || decide (c.raw.length = 0)) && (decide (c.verb = 5) || decide (c.verb = 8) || decide (c.picks.length = 0))
def cndC (c : Cmd) : Bool := if c.verb = 2 then okReq c.req else decide (c.req = req0)
def cndD (c : Cmd) : Bool := decide (loN c.verb ≤ c.n) && decide (c.n ≤ hiN c.verb)
theorem fine0_parts (c : Cmd) : fine0 c = (cndA c && cndB c && cndC c && cndD c) := by
  have r0 : decide (c.raw = []) = decide (c.raw.length = 0) := by cases c.raw <;> simp
  have p0 : decide (c.picks = []) = decide (c.picks.length = 0) := by cases c.picks <;> simp
  unfold fine0 within cndA cndB cndC cndD
  rw [r0, p0, Bool.eq_iff_iff]
  by_cases h2 : c.verb = 2
  · rw [if_pos h2, if_pos h2]
    simp only [Bool.and_eq_true, Bool.or_eq_true, decide_eq_true_eq, labels]
    constructor
    · rintro ⟨⟨h0, h1⟩, ⟨⟨⟨⟨a1, a2⟩, a3⟩, a4⟩, a5⟩, ⟨a6, a7⟩, a8⟩
      exact ⟨⟨⟨⟨⟨⟨h0, h1⟩, a3⟩, a4⟩, ⟨⟨Or.inl (Or.inl (Or.inl (Or.inr h2))), Or.inr a7⟩, Or.inr a8⟩⟩, a6⟩, a1, a2⟩
    · rintro ⟨⟨⟨⟨⟨⟨h0, h1⟩, a3⟩, a4⟩, ⟨⟨a5, a7⟩, a8⟩⟩, a6⟩, a1, a2⟩
      refine ⟨⟨h0, h1⟩, ⟨⟨⟨⟨a1, a2⟩, a3⟩, a4⟩, Or.inl (Or.inl (Or.inl (Or.inr h2)))⟩, ⟨a6, ?_⟩, ?_⟩
      · rcases a7 with h | h
        · omega
        · exact h
      · rcases a8 with h | h
        · omega
        · exact h
  · rw [if_neg h2, if_neg h2]
    simp only [Bool.and_eq_true, Bool.or_eq_true, decide_eq_true_eq]
    constructor
    · rintro ⟨⟨h0, h1⟩, ⟨⟨⟨⟨a1, a2⟩, a3⟩, a4⟩, a5⟩, ⟨a6, a7⟩, a8⟩
      exact ⟨⟨⟨⟨⟨⟨h0, h1⟩, a3⟩, a4⟩, ⟨⟨a5.imp id (by omega), a7⟩, a8⟩⟩, a6⟩, a1, a2⟩
    · rintro ⟨⟨⟨⟨⟨⟨h0, h1⟩, a3⟩, a4⟩, ⟨⟨a5, a7⟩, a8⟩⟩, a6⟩, a1, a2⟩
      exact ⟨⟨h0, h1⟩, ⟨⟨⟨⟨a1, a2⟩, a3⟩, a4⟩, a5.imp id (by omega)⟩, ⟨a6, a7⟩, a8⟩
theorem verbW_empty (v : Int) : (S (if 0 ≤ v ∧ v ≤ 10 then verbWords.getD v.toNat [] else [])).toList.isEmpty = !decide (0 ≤ v ∧ v ≤ 10) := by
  rw [S_list]
  by_cases h : 0 ≤ v ∧ v ≤ 10
  · rw [if_pos h, decide_eq_true h]
    have : ∀ i : Fin 11, (verbWords.getD i.val []).isEmpty = false := by decide
    exact this ⟨v.toNat, by omega⟩
  · rw [if_neg h, decide_eq_false h]; rfl

set_option maxRecDepth 100000 in
set_option maxHeartbeats 8000000 in
theorem right_any (c : Cmd) (A : Option Addr) (a : Nat) (P : Option Addr) (p : Nat) (w : World) (hI : cmdI c) :
    Calls Tryz.prog 24 #[.agg (cmdC c (.slice A c.raw.length a) (.slice P c.picks.length p))] w fun e w' => e = .returned (.bool (fine0 c)) ∧ Below w.heap.size w w' := by
  have hT0 := Blk.new w 28 (cmdC c (.slice A c.raw.length a) (.slice P c.picks.length p))
  have hB0 : Below w.heap.size w (w.alloc (.cells (cmdC c (.slice A c.raw.length a) (.slice P c.picks.length p)) 28)) := (Below.refl _ _).alloc (Nat.le_refl _) _
  generalize hcs : cmdC c (.slice A c.raw.length a) (.slice P c.picks.length p) = cs at hT0 hB0 ⊢
  have HCS := Lib.hid hcs
  have HI := Lib.hid hI
  obtain ⟨f0, hf0⟩ : ∃ b, fine0 c = b := ⟨_, rfl⟩
  rw [hf0]
  rw [fine0_parts] at hf0
  have HF0 := Lib.hid hf0
  clear hcs hI hf0
  go_enter Tryz.func24, Tryz.ntmps24
  go_upto_region 1 with fail
  generalize hw0 : w.alloc _ = w0 at hT0 hB0 ⊢
  have HT0 := Lib.hid hT0
  have HB0 := Lib.hid hB0
  have hcell : ∀ (i : Nat) (v : Value), (cmdL c (.slice A c.raw.length a) (.slice P c.picks.length p))[i]? = some v → ∀ w', Below w0.heap.size w0 w' → w'.cell? ⟨w.heap.size, i, none⟩ = some v := fun i v h w' hb => by
    have := cmd_load (by rw [HCS.out]; exact HT0.out.below hb HT0.out.lt) i v h
    rwa [add_flat, Nat.zero_add] at this
  have K0 : Hid (∀ w', Below w0.heap.size w0 w' → w'.cell? ⟨w.heap.size, 0, none⟩ = some (.int .i64 c.verb)) := hcell 0 _ rfl
  have K1 : Hid (∀ w', Below w0.heap.size w0 w' → w'.cell? ⟨w.heap.size, 1, none⟩ = some (.int .i64 c.conn)) := hcell 1 _ rfl
  have K11 : Hid (∀ w', Below w0.heap.size w0 w' → w'.cell? ⟨w.heap.size, 11, none⟩ = some (.slice A c.raw.length a)) := hcell 11 _ rfl
  have K12 : Hid (∀ w', Below w0.heap.size w0 w' → w'.cell? ⟨w.heap.size, 12, none⟩ = some (.int .i64 c.n)) := hcell 12 _ rfl
  have K13 : Hid (∀ w', Below w0.heap.size w0 w' → w'.cell? ⟨w.heap.size, 13, none⟩ = some (.slice P c.picks.length p)) := hcell 13 _ rfl
  clear hT0 hB0 hw0 hcell
  go_cut [18] (fun s18 wx => s18 = .bool (!cndA c) ∧ Hid (Below w0.heap.size w0 wx))
  case first =>
    have q0 : w0.cell? ⟨w.heap.size, 0, none⟩ = some (.int .i64 c.verb) := K0.out w0 (Below.refl _ _)
    have HIv := HI.out.1
    go_wp2_with fail
    refine (verbW_any c.verb HIv w0).mono ?_
    rintro e w1 ⟨rfl, hb1⟩
    have q0 : w1.cell? ⟨w.heap.size, 0, none⟩ = some (.int .i64 c.verb) := K0.out w1 hb1
    have q1 : w1.cell? ⟨w.heap.size, 1, none⟩ = some (.int .i64 c.conn) := K1.out w1 hb1
    have HB1 := Lib.hid hb1
    clear hb1
    have hem := verbW_empty c.verb
    generalize (if 0 ≤ c.verb ∧ c.verb ≤ 10 then verbWords.getD c.verb.toNat [] else []) = vw at hem ⊢
    obtain ⟨vo, hvo⟩ : ∃ b, decide (0 ≤ c.verb ∧ c.verb ≤ 10) = b := ⟨_, rfl⟩
    rw [hvo] at hem
    have HCA : Hid (cndA c = (vo && decide (0 ≤ c.conn) && decide (c.conn ≤ 999))) := Lib.hid (by unfold cndA; rw [hvo])
    clear hvo HIv
    cases vo with
    | false =>
      go_wp2_with fail
      all_goals
        go_meet
        exact ⟨by rw [HCA.out]; rfl, HB1.out⟩
    | true =>
      by_cases h0 : c.conn < 0
      · go_wp2_with fail
        all_goals
          go_meet
          exact ⟨by rw [HCA.out, decide_eq_false (by omega)]; rfl, HB1.out⟩
      · by_cases h1 : 999 < c.conn
        · go_wp2_with fail
          all_goals
            go_meet
            exact ⟨by rw [HCA.out, decide_eq_false (p := c.conn ≤ 999) (by omega)]; simp, HB1.out⟩
        · go_wp2_with fail
          all_goals
            go_meet
            exact ⟨by rw [HCA.out, decide_eq_true (p := c.conn ≤ 999) (by omega), decide_eq_true (p := 0 ≤ c.conn) (by omega)]; simp; omega, HB1.out⟩
  case rest =>
    obtain ⟨rfl, HB1⟩ := hcut
    have HBW : Hid (Below w.heap.size w wc) := HB0.out.trans (HB1.out.mono HB0.out.size)
    cases hA : cndA c with
    | false =>
      have HF : Hid (false = f0) := Lib.hid (by rw [← HF0.out, hA] <;> rfl)
      clear hA
      go_wp2_with fail
      go_ret
      exact ⟨ret_bool HF.out, HBW.out⟩
    | true =>
      have hv : 0 ≤ c.verb ∧ c.verb ≤ 10 := by
        unfold cndA at hA
        rw [Bool.and_eq_true, Bool.and_eq_true, decide_eq_true_eq] at hA
        exact hA.1.1
      have HF1 : Hid ((cndB c && cndC c && cndD c) = f0) := Lib.hid (by rw [← HF0.out, hA] <;> rfl)
      clear hA HF0
      have HV := Lib.hid hv
      clear hv
      go_upto_region 3 with fail
      go_cut [3] (fun s wx => s = .bool (labels c.verb) ∧ wc = wx)
      case first =>
        have hvv := int_cases11 c.verb HV.out
        obtain ⟨vb, hvb⟩ : ∃ v, c.verb = v := ⟨_, rfl⟩
        have q0 : wc.cell? ⟨w.heap.size, 0, none⟩ = some (.int .i64 c.verb) := K0.out wc HB1.out
        rw [hvb] at q0 hvv
        have HVB := Lib.hid hvb
        clear hvb
        rcases hvv with rfl | rfl | rfl | rfl | rfl | rfl | rfl | rfl | rfl | rfl | rfl
        all_goals
          go_wp2_with fail
          go_meet
          rw [HVB.out]
          exact ⟨rfl, rfl⟩
      case rest =>
        obtain ⟨rfl, hwc⟩ := hcut
        subst hwc
        go_upto_region 4 with fail
        go_cut [4] (fun s wx => s = .bool (decide (c.verb = 5) || decide (c.verb = 8)) ∧ wc = wx)
        case first =>
          have hvv := int_cases11 c.verb HV.out
          obtain ⟨vb, hvb⟩ : ∃ v, c.verb = v := ⟨_, rfl⟩
          have q0 : wc.cell? ⟨w.heap.size, 0, none⟩ = some (.int .i64 c.verb) := K0.out wc HB1.out
          rw [hvb] at q0 hvv
          have HVB := Lib.hid hvb
          clear hvb
          rcases hvv with rfl | rfl | rfl | rfl | rfl | rfl | rfl | rfl | rfl | rfl | rfl
          all_goals
            go_wp2_with fail
            go_meet
            rw [HVB.out]
            exact ⟨rfl, rfl⟩
        case rest =>
          obtain ⟨rfl, hwc⟩ := hcut
          subst hwc
          obtain ⟨lb, hlb⟩ : ∃ x, labels c.verb = x := ⟨_, rfl⟩
          obtain ⟨pk, hpk⟩ : ∃ x, (decide (c.verb = 5) || decide (c.verb = 8)) = x := ⟨_, rfl⟩
          have HCB : Hid (cndB c = ((lb || decide (c.conn ≤ 0)) && (decide (c.verb = 3) || decide (c.raw.length = 0)) && (pk || decide (c.picks.length = 0)))) := Lib.hid (by unfold cndB; rw [hlb, hpk])
          rw [hlb, hpk]
          clear hlb hpk
          go_upto_region 5 with fail
          go_cut [77] (fun s77 wx => s77 = .bool (!cndB c) ∧ wc = wx)
          case first =>
            have q0 : wc.cell? ⟨w.heap.size, 0, none⟩ = some (.int .i64 c.verb) := K0.out wc HB1.out
            have q1 : wc.cell? ⟨w.heap.size, 1, none⟩ = some (.int .i64 c.conn) := K1.out wc HB1.out
            have q11 : wc.cell? ⟨w.heap.size, 11, none⟩ = some (.slice A c.raw.length a) := K11.out wc HB1.out
            have q13 : wc.cell? ⟨w.heap.size, 13, none⟩ = some (.slice P c.picks.length p) := K13.out wc HB1.out
            obtain ⟨rl, hrl⟩ : ∃ n, c.raw.length = n := ⟨_, rfl⟩
            obtain ⟨pl, hpl⟩ : ∃ n, c.picks.length = n := ⟨_, rfl⟩
            rw [hrl] at q11
            rw [hpl] at q13
            have HCB' : Hid (cndB c = ((lb || decide (c.conn ≤ 0)) && (decide (c.verb = 3) || decide (rl = 0)) && (pk || decide (pl = 0)))) := Lib.hid (by rw [HCB.out, hrl, hpl])
            clear hrl hpl HCB
            by_cases hc : lb = false ∧ 0 < c.conn
            · obtain ⟨rfl, hc⟩ := hc
              have HV2 : Hid ((!cndB c) = true) := Lib.hid (by rw [HCB'.out, decide_eq_false (p := c.conn ≤ 0) (by omega)]; simp)
              go_wp2_with fail
              all_goals
                go_meet
                refine ⟨congrArg Value.bool ?_, rfl⟩
                rw [HV2.out]
                first | done | rfl | (rw [decide_eq_true_eq]; omega) | (rw [decide_eq_false_iff_not]; omega) | (simp; done) | (simp; omega)
            have HC1 : Hid ((lb || decide (c.conn ≤ 0)) = true) := Lib.hid (by
              cases lb with
              | true => rfl
              | false => rw [decide_eq_true (by by_cases h : 0 < c.conn; exact absurd ⟨rfl, h⟩ hc; omega)] <;> rfl)
            by_cases h3 : c.verb = 3
            · have HC2 : Hid ((decide (c.verb = 3) || decide (rl = 0)) = true) := Lib.hid (by rw [decide_eq_true h3] <;> rfl)
              rw [h3] at q0
              clear h3
              by_cases hp : pk = false ∧ 0 < pl
              · obtain ⟨rfl, hp⟩ := hp
                have HV2 : Hid ((!cndB c) = true) := Lib.hid (by rw [HCB'.out, HC1.out, HC2.out, decide_eq_false (p := pl = 0) (by omega)] <;> rfl)
                cases lb with
                | true =>
                  clear hc
                  go_wp2_with fail
                  all_goals
                    go_meet
                    refine ⟨congrArg Value.bool ?_, rfl⟩
                    rw [HV2.out]
                | false =>
                  have hc' : ¬ 0 < c.conn := fun h => hc ⟨rfl, h⟩
                  clear hc
                  go_wp2_with fail
                  all_goals
                    go_meet
                    refine ⟨congrArg Value.bool ?_, rfl⟩
                    rw [HV2.out]
              · cases lb with
                | true =>
                  clear hc
                  cases pk with
                  | true =>
                    have HV2 : Hid ((!cndB c) = false) := Lib.hid (by rw [HCB'.out, HC1.out, HC2.out] <;> rfl)
                    clear hp
                    go_wp2_with fail
                    all_goals
                      go_meet
                      refine ⟨congrArg Value.bool ?_, rfl⟩
                      rw [HV2.out]
                  | false =>
                    obtain rfl : pl = 0 := by by_cases h : 0 < pl; exact absurd ⟨rfl, h⟩ hp; omega
                    have HV2 : Hid ((!cndB c) = false) := Lib.hid (by rw [HCB'.out, HC1.out, HC2.out, decide_eq_true (p := 0 = 0) rfl] <;> rfl)
                    clear hp
                    go_wp2_with fail
                    all_goals
                      go_meet
                      refine ⟨congrArg Value.bool ?_, rfl⟩
                      rw [HV2.out]
                | false =>
                  have hc' : ¬ 0 < c.conn := fun h => hc ⟨rfl, h⟩
                  clear hc
                  cases pk with
                  | true =>
                    have HV2 : Hid ((!cndB c) = false) := Lib.hid (by rw [HCB'.out, HC1.out, HC2.out] <;> rfl)
                    clear hp
                    go_wp2_with fail
                    all_goals
                      go_meet
                      refine ⟨congrArg Value.bool ?_, rfl⟩
                      rw [HV2.out]
                  | false =>
                    obtain rfl : pl = 0 := by by_cases h : 0 < pl; exact absurd ⟨rfl, h⟩ hp; omega
                    have HV2 : Hid ((!cndB c) = false) := Lib.hid (by rw [HCB'.out, HC1.out, HC2.out, decide_eq_true (p := 0 = 0) rfl] <;> rfl)
                    clear hp
                    go_wp2_with fail
                    all_goals
                      go_meet
                      refine ⟨congrArg Value.bool ?_, rfl⟩
                      rw [HV2.out]
            · have h3' : (c.verb != 3) = true := by rw [bne_iff_ne]; exact h3
              by_cases hr : 0 < rl
              · have HV2 : Hid ((!cndB c) = true) := Lib.hid (by rw [HCB'.out, HC1.out, decide_eq_false h3, decide_eq_false (p := rl = 0) (by omega)] <;> rfl)
                cases lb with
                | true =>
                  clear hc
                  go_wp2_with fail
                  all_goals
                    go_meet
                    refine ⟨congrArg Value.bool ?_, rfl⟩
                    rw [HV2.out]
                | false =>
                  have hc' : ¬ 0 < c.conn := fun h => hc ⟨rfl, h⟩
                  clear hc
                  go_wp2_with fail
                  all_goals
                    go_meet
                    refine ⟨congrArg Value.bool ?_, rfl⟩
                    rw [HV2.out]
              · obtain rfl : rl = 0 := by omega
                have HC2 : Hid ((decide (c.verb = 3) || decide (0 = 0)) = true) := Lib.hid (by simp)
                by_cases hp : pk = false ∧ 0 < pl
                · obtain ⟨rfl, hp⟩ := hp
                  have HV2 : Hid ((!cndB c) = true) := Lib.hid (by rw [HCB'.out, HC1.out, HC2.out, decide_eq_false (p := pl = 0) (by omega)] <;> rfl)
                  cases lb with
                  | true =>
                    clear hc
                    go_wp2_with fail
                    all_goals
                      go_meet
                      refine ⟨congrArg Value.bool ?_, rfl⟩
                      rw [HV2.out]
                  | false =>
                    have hc' : ¬ 0 < c.conn := fun h => hc ⟨rfl, h⟩
                    clear hc
                    go_wp2_with fail
                    all_goals
                      go_meet
                      refine ⟨congrArg Value.bool ?_, rfl⟩
                      rw [HV2.out]
                · cases lb with
                  | true =>
                    clear hc
                    cases pk with
                    | true =>
                      have HV2 : Hid ((!cndB c) = false) := Lib.hid (by rw [HCB'.out, HC1.out, HC2.out] <;> rfl)
                      clear hp
                      go_wp2_with fail
                      all_goals
                        go_meet
                        refine ⟨congrArg Value.bool ?_, rfl⟩
                        rw [HV2.out]
                    | false =>
                      obtain rfl : pl = 0 := by by_cases h : 0 < pl; exact absurd ⟨rfl, h⟩ hp; omega
                      have HV2 : Hid ((!cndB c) = false) := Lib.hid (by rw [HCB'.out, HC1.out, HC2.out, decide_eq_true (p := 0 = 0) rfl] <;> rfl)
                      clear hp
                      go_wp2_with fail
                      all_goals
                        go_meet
                        refine ⟨congrArg Value.bool ?_, rfl⟩
                        rw [HV2.out]
                  | false =>
                    have hc' : ¬ 0 < c.conn := fun h => hc ⟨rfl, h⟩
                    clear hc
                    cases pk with
                    | true =>
                      have HV2 : Hid ((!cndB c) = false) := Lib.hid (by rw [HCB'.out, HC1.out, HC2.out] <;> rfl)
                      clear hp
                      go_wp2_with fail
                      all_goals
                        go_meet
                        refine ⟨congrArg Value.bool ?_, rfl⟩
                        rw [HV2.out]
                    | false =>
                      obtain rfl : pl = 0 := by by_cases h : 0 < pl; exact absurd ⟨rfl, h⟩ hp; omega
                      have HV2 : Hid ((!cndB c) = false) := Lib.hid (by rw [HCB'.out, HC1.out, HC2.out, decide_eq_true (p := 0 = 0) rfl] <;> rfl)
                      clear hp
                      go_wp2_with fail
                      all_goals
                        go_meet
                        refine ⟨congrArg Value.bool ?_, rfl⟩
                        rw [HV2.out]
          case rest =>
            obtain ⟨rfl, hwc⟩ := hcut
            subst hwc
            cases hB : cndB c with
            | false =>
              have HF : Hid (false = f0) := Lib.hid (by rw [← HF1.out, hB] <;> rfl)
              clear hB HF1
              go_wp2_with fail
              go_ret
              exact ⟨ret_bool HF.out, HBW.out⟩
            | true =>
              have HF2 : Hid ((cndC c && cndD c) = f0) := Lib.hid (by rw [← HF1.out, hB] <;> rfl)
              clear hB HF1
              have HF1 := HF2
              clear HF2
              go_upto_region 7 with fail
              obtain ⟨nn, hnn⟩ : ∃ n, c.n = n := ⟨_, rfl⟩
              by_cases h2 : c.verb = 2
              · have q0 : wc.cell? ⟨w.heap.size, 0, none⟩ = some (.int .i64 c.verb) := K0.out wc HB1.out
                rw [h2] at q0
                have HV2 := Lib.hid h2
                clear h2
                go_wp2_with (first
                  | ((with_reducible refine at_op ⟨_, .load 24 (.tmp 81), _, _, _, _⟩ ?_); refine wpList_load_list rfl 24 (.tmp 81) rfl ⟨w.heap.size, 2, none⟩ rfl (reqC c.req) (req_load (by rw [HCS.out]; exact HT0.out.below HB1.out HT0.out.lt)) _ Tryz.underlying24 rfl (by kernel_rfl) ?_)
                  | fail)
                refine (rcheck_any c.req wc).mono ?_
                rintro e w1 ⟨rfl, hb1⟩
                have HB2 : Hid (Below w.heap.size w w1) := HBW.out.trans (hb1.mono HBW.out.size)
                have HB3 : Hid (Below w0.heap.size w0 w1) := HB1.out.trans (hb1.mono HB1.out.size)
                clear hb1 q0
                by_cases hok : okReq c.req = true
                · rw [okE_yes hok]
                  have HFD : Hid ((decide (loN 2 ≤ nn) && decide (nn ≤ hiN 2)) = f0) := Lib.hid (by rw [← HF1.out]; unfold cndC cndD; rw [if_pos HV2.out, hok, HV2.out, hnn] <;> rfl)
                  have q0 : w1.cell? ⟨w.heap.size, 0, none⟩ = some (.int .i64 2) := by rw [← HV2.out]; exact K0.out w1 HB3.out
                  have q12 : w1.cell? ⟨w.heap.size, 12, none⟩ = some (.int .i64 nn) := by rw [← hnn]; exact K12.out w1 HB3.out
                  clear hok hnn HF1
                  by_cases hz : nn = 0
                  · have HF : Hid (true = f0) := Lib.hid (by rw [← HFD.out, hz] <;> rfl)
                    rw [hz] at q12
                    clear hz
                    go_wp2_with fail
                    go_ret
                    exact ⟨ret_bool HF.out, HB2.out⟩
                  · have HF : Hid (false = f0) := Lib.hid (by
                      rw [← HFD.out]
                      symm
                      rw [Bool.and_eq_false_iff, decide_eq_false_iff_not, decide_eq_false_iff_not]
                      show ¬ (0 : Int) ≤ nn ∨ ¬ nn ≤ 0
                      omega)
                    have hz' : (nn == 0) = false := by rw [beq_eq_false_iff_ne]; exact hz
                    go_wp2_with fail
                    go_ret
                    exact ⟨ret_bool HF.out, HB2.out⟩
                · have hok' : okReq c.req = false := by simpa using hok
                  rw [okE_no hok']
                  have HF : Hid (false = f0) := Lib.hid (by rw [← HF1.out]; unfold cndC; rw [if_pos HV2.out, hok'] <;> rfl)
                  clear hok hok'
                  go_wp2_with fail
                  go_ret
                  exact ⟨ret_bool HF.out, HB2.out⟩
              · have HV2 := Lib.hid h2
                have q0 : wc.cell? ⟨w.heap.size, 0, none⟩ = some (.int .i64 c.verb) := K0.out wc HB1.out
                have h2' : (c.verb == 2) = false := by rw [beq_eq_false_iff_ne]; exact h2
                clear h2
                by_cases h0 : c.req.id = 0
                rotate_left
                · have HF : Hid (false = f0) := Lib.hid (by rw [← HF1.out]; unfold cndC; rw [if_neg HV2.out, decide_eq_false (fun e : c.req = req0 => h0 (by rw [e]; rfl))] <;> rfl)
                  have hb : (c.req.id == 0) = false := by rw [beq_eq_false_iff_ne]; exact h0
                  go_wp2_with (first
                    | ((with_reducible refine at_op ⟨_, .load 24 (.tmp 85), _, _, _, _⟩ ?_); refine wpList_load_list rfl 24 (.tmp 85) rfl ⟨w.heap.size, 2, none⟩ rfl [.int .u32 c.req.id, .int .i64 c.req.op, .string (S c.req.topic), .string (S c.req.key), .string (S c.req.value), .int .i64 c.req.off, .int .i64 c.req.num, .int .i64 c.req.pid, .int .i64 c.req.seq] (by have := req_load (c := c) (sR := .slice A c.raw.length a) (sP := .slice P c.picks.length p) (w := wc) (g := w.heap.size) (by rw [HCS.out]; exact HT0.out.below HB1.out HT0.out.lt); unfold reqC at this; exact this) _ Tryz.underlying24 rfl (by kernel_rfl) ?_)
                    | fail)
                  go_ret
                  exact ⟨ret_bool HF.out, HBW.out⟩
                by_cases h1 : c.req.op = 0
                rotate_left
                · have HF : Hid (false = f0) := Lib.hid (by rw [← HF1.out]; unfold cndC; rw [if_neg HV2.out, decide_eq_false (fun e : c.req = req0 => h1 (by rw [e]; rfl))] <;> rfl)
                  have hb : (c.req.op == 0) = false := by rw [beq_eq_false_iff_ne]; exact h1
                  go_wp2_with (first
                    | ((with_reducible refine at_op ⟨_, .load 24 (.tmp 85), _, _, _, _⟩ ?_); refine wpList_load_list rfl 24 (.tmp 85) rfl ⟨w.heap.size, 2, none⟩ rfl [.int .u32 0, .int .i64 c.req.op, .string (S c.req.topic), .string (S c.req.key), .string (S c.req.value), .int .i64 c.req.off, .int .i64 c.req.num, .int .i64 c.req.pid, .int .i64 c.req.seq] (by have := req_load (c := c) (sR := .slice A c.raw.length a) (sP := .slice P c.picks.length p) (w := wc) (g := w.heap.size) (by rw [HCS.out]; exact HT0.out.below HB1.out HT0.out.lt); unfold reqC at this; rw [h0] at this; exact this) _ Tryz.underlying24 rfl (by kernel_rfl) ?_)
                    | fail)
                  go_ret
                  exact ⟨ret_bool HF.out, HBW.out⟩
                by_cases h2 : c.req.topic = []
                rotate_left
                · have HF : Hid (false = f0) := Lib.hid (by rw [← HF1.out]; unfold cndC; rw [if_neg HV2.out, decide_eq_false (fun e : c.req = req0 => h2 (by rw [e]; rfl))] <;> rfl)
                  have hb : (S c.req.topic).toList.isEmpty = false := by rw [S_list]; simp [h2]
                  go_wp2_with (first
                    | ((with_reducible refine at_op ⟨_, .load 24 (.tmp 85), _, _, _, _⟩ ?_); refine wpList_load_list rfl 24 (.tmp 85) rfl ⟨w.heap.size, 2, none⟩ rfl [.int .u32 0, .int .i64 0, .string (S c.req.topic), .string (S c.req.key), .string (S c.req.value), .int .i64 c.req.off, .int .i64 c.req.num, .int .i64 c.req.pid, .int .i64 c.req.seq] (by have := req_load (c := c) (sR := .slice A c.raw.length a) (sP := .slice P c.picks.length p) (w := wc) (g := w.heap.size) (by rw [HCS.out]; exact HT0.out.below HB1.out HT0.out.lt); unfold reqC at this; rw [h0, h1] at this; exact this) _ Tryz.underlying24 rfl (by kernel_rfl) ?_)
                    | fail)
                  go_ret
                  exact ⟨ret_bool HF.out, HBW.out⟩
                by_cases h3 : c.req.key = []
                rotate_left
                · have HF : Hid (false = f0) := Lib.hid (by rw [← HF1.out]; unfold cndC; rw [if_neg HV2.out, decide_eq_false (fun e : c.req = req0 => h3 (by rw [e]; rfl))] <;> rfl)
                  have hb : (S c.req.key).toList.isEmpty = false := by rw [S_list]; simp [h3]
                  go_wp2_with (first
                    | ((with_reducible refine at_op ⟨_, .load 24 (.tmp 85), _, _, _, _⟩ ?_); refine wpList_load_list rfl 24 (.tmp 85) rfl ⟨w.heap.size, 2, none⟩ rfl [.int .u32 0, .int .i64 0, .string ⟨#[]⟩, .string (S c.req.key), .string (S c.req.value), .int .i64 c.req.off, .int .i64 c.req.num, .int .i64 c.req.pid, .int .i64 c.req.seq] (by have := req_load (c := c) (sR := .slice A c.raw.length a) (sP := .slice P c.picks.length p) (w := wc) (g := w.heap.size) (by rw [HCS.out]; exact HT0.out.below HB1.out HT0.out.lt); unfold reqC at this; rw [h0, h1, h2] at this; exact this) _ Tryz.underlying24 rfl (by kernel_rfl) ?_)
                    | fail)
                  go_ret
                  exact ⟨ret_bool HF.out, HBW.out⟩
                by_cases h4 : c.req.value = []
                rotate_left
                · have HF : Hid (false = f0) := Lib.hid (by rw [← HF1.out]; unfold cndC; rw [if_neg HV2.out, decide_eq_false (fun e : c.req = req0 => h4 (by rw [e]; rfl))] <;> rfl)
                  have hb : (S c.req.value).toList.isEmpty = false := by rw [S_list]; simp [h4]
                  go_wp2_with (first
                    | ((with_reducible refine at_op ⟨_, .load 24 (.tmp 85), _, _, _, _⟩ ?_); refine wpList_load_list rfl 24 (.tmp 85) rfl ⟨w.heap.size, 2, none⟩ rfl [.int .u32 0, .int .i64 0, .string ⟨#[]⟩, .string ⟨#[]⟩, .string (S c.req.value), .int .i64 c.req.off, .int .i64 c.req.num, .int .i64 c.req.pid, .int .i64 c.req.seq] (by have := req_load (c := c) (sR := .slice A c.raw.length a) (sP := .slice P c.picks.length p) (w := wc) (g := w.heap.size) (by rw [HCS.out]; exact HT0.out.below HB1.out HT0.out.lt); unfold reqC at this; rw [h0, h1, h2, h3] at this; exact this) _ Tryz.underlying24 rfl (by kernel_rfl) ?_)
                    | fail)
                  go_ret
                  exact ⟨ret_bool HF.out, HBW.out⟩
                by_cases h5 : c.req.off = 0
                rotate_left
                · have HF : Hid (false = f0) := Lib.hid (by rw [← HF1.out]; unfold cndC; rw [if_neg HV2.out, decide_eq_false (fun e : c.req = req0 => h5 (by rw [e]; rfl))] <;> rfl)
                  have hb : (c.req.off == 0) = false := by rw [beq_eq_false_iff_ne]; exact h5
                  go_wp2_with (first
                    | ((with_reducible refine at_op ⟨_, .load 24 (.tmp 85), _, _, _, _⟩ ?_); refine wpList_load_list rfl 24 (.tmp 85) rfl ⟨w.heap.size, 2, none⟩ rfl [.int .u32 0, .int .i64 0, .string ⟨#[]⟩, .string ⟨#[]⟩, .string ⟨#[]⟩, .int .i64 c.req.off, .int .i64 c.req.num, .int .i64 c.req.pid, .int .i64 c.req.seq] (by have := req_load (c := c) (sR := .slice A c.raw.length a) (sP := .slice P c.picks.length p) (w := wc) (g := w.heap.size) (by rw [HCS.out]; exact HT0.out.below HB1.out HT0.out.lt); unfold reqC at this; rw [h0, h1, h2, h3, h4] at this; exact this) _ Tryz.underlying24 rfl (by kernel_rfl) ?_)
                    | fail)
                  go_ret
                  exact ⟨ret_bool HF.out, HBW.out⟩
                by_cases h6 : c.req.num = 0
                rotate_left
                · have HF : Hid (false = f0) := Lib.hid (by rw [← HF1.out]; unfold cndC; rw [if_neg HV2.out, decide_eq_false (fun e : c.req = req0 => h6 (by rw [e]; rfl))] <;> rfl)
                  have hb : (c.req.num == 0) = false := by rw [beq_eq_false_iff_ne]; exact h6
                  go_wp2_with (first
                    | ((with_reducible refine at_op ⟨_, .load 24 (.tmp 85), _, _, _, _⟩ ?_); refine wpList_load_list rfl 24 (.tmp 85) rfl ⟨w.heap.size, 2, none⟩ rfl [.int .u32 0, .int .i64 0, .string ⟨#[]⟩, .string ⟨#[]⟩, .string ⟨#[]⟩, .int .i64 0, .int .i64 c.req.num, .int .i64 c.req.pid, .int .i64 c.req.seq] (by have := req_load (c := c) (sR := .slice A c.raw.length a) (sP := .slice P c.picks.length p) (w := wc) (g := w.heap.size) (by rw [HCS.out]; exact HT0.out.below HB1.out HT0.out.lt); unfold reqC at this; rw [h0, h1, h2, h3, h4, h5] at this; exact this) _ Tryz.underlying24 rfl (by kernel_rfl) ?_)
                    | fail)
                  go_ret
                  exact ⟨ret_bool HF.out, HBW.out⟩
                by_cases h7 : c.req.pid = 0
                rotate_left
                · have HF : Hid (false = f0) := Lib.hid (by rw [← HF1.out]; unfold cndC; rw [if_neg HV2.out, decide_eq_false (fun e : c.req = req0 => h7 (by rw [e]; rfl))] <;> rfl)
                  have hb : (c.req.pid == 0) = false := by rw [beq_eq_false_iff_ne]; exact h7
                  go_wp2_with (first
                    | ((with_reducible refine at_op ⟨_, .load 24 (.tmp 85), _, _, _, _⟩ ?_); refine wpList_load_list rfl 24 (.tmp 85) rfl ⟨w.heap.size, 2, none⟩ rfl [.int .u32 0, .int .i64 0, .string ⟨#[]⟩, .string ⟨#[]⟩, .string ⟨#[]⟩, .int .i64 0, .int .i64 0, .int .i64 c.req.pid, .int .i64 c.req.seq] (by have := req_load (c := c) (sR := .slice A c.raw.length a) (sP := .slice P c.picks.length p) (w := wc) (g := w.heap.size) (by rw [HCS.out]; exact HT0.out.below HB1.out HT0.out.lt); unfold reqC at this; rw [h0, h1, h2, h3, h4, h5, h6] at this; exact this) _ Tryz.underlying24 rfl (by kernel_rfl) ?_)
                    | fail)
                  go_ret
                  exact ⟨ret_bool HF.out, HBW.out⟩
                by_cases h8 : c.req.seq = 0
                rotate_left
                · have HF : Hid (false = f0) := Lib.hid (by rw [← HF1.out]; unfold cndC; rw [if_neg HV2.out, decide_eq_false (fun e : c.req = req0 => h8 (by rw [e]; rfl))] <;> rfl)
                  have hb : (c.req.seq == 0) = false := by rw [beq_eq_false_iff_ne]; exact h8
                  go_wp2_with (first
                    | ((with_reducible refine at_op ⟨_, .load 24 (.tmp 85), _, _, _, _⟩ ?_); refine wpList_load_list rfl 24 (.tmp 85) rfl ⟨w.heap.size, 2, none⟩ rfl [.int .u32 0, .int .i64 0, .string ⟨#[]⟩, .string ⟨#[]⟩, .string ⟨#[]⟩, .int .i64 0, .int .i64 0, .int .i64 0, .int .i64 c.req.seq] (by have := req_load (c := c) (sR := .slice A c.raw.length a) (sP := .slice P c.picks.length p) (w := wc) (g := w.heap.size) (by rw [HCS.out]; exact HT0.out.below HB1.out HT0.out.lt); unfold reqC at this; rw [h0, h1, h2, h3, h4, h5, h6, h7] at this; exact this) _ Tryz.underlying24 rfl (by kernel_rfl) ?_)
                    | fail)
                  go_ret
                  exact ⟨ret_bool HF.out, HBW.out⟩
                have hq : c.req = req0 := by
                  obtain ⟨vb, cn, ⟨i0, i1, i2, i3, i4, i5, i6, i7, i8⟩, rr, nn, pp⟩ := c
                  simp only at h0 h1 h2 h3 h4 h5 h6 h7 h8
                  subst h0 h1 h2 h3 h4 h5 h6 h7 h8
                  rfl
                have HRQ : Hid (∀ (j : Nat) (v : Value), ([.int .u32 0, .int .i64 0, .string ⟨#[]⟩, .string ⟨#[]⟩, .string ⟨#[]⟩, .int .i64 0, .int .i64 0, .int .i64 0, .int .i64 0] : List Value)[j]? = some v → wc.cell? ((⟨w.heap.size, 2, none⟩ : Addr).add j) = some v) := Lib.hid (by
                  have := req_load (c := c) (sR := .slice A c.raw.length a) (sP := .slice P c.picks.length p) (w := wc) (g := w.heap.size) (by rw [HCS.out]; exact HT0.out.below HB1.out HT0.out.lt)
                  rw [hq] at this
                  exact this)
                have q12 : wc.cell? ⟨w.heap.size, 12, none⟩ = some (.int .i64 nn) := by rw [← hnn]; exact K12.out wc HB1.out
                have hvv := int_cases11 c.verb HV.out
                have HFV : Hid ((decide (loN c.verb ≤ nn) && decide (nn ≤ hiN c.verb)) = f0) := Lib.hid (by rw [← HF1.out]; unfold cndC cndD; rw [if_neg HV2.out, decide_eq_true hq, hnn] <;> rfl)
                clear h0 h1 h2 h2' h3 h4 h5 h6 h7 h8 hq HF1 hnn
                obtain ⟨vb, hvb⟩ : ∃ v, c.verb = v := ⟨_, rfl⟩
                rw [hvb] at q0 hvv
                have HFV2 : Hid ((decide (loN vb ≤ nn) && decide (nn ≤ hiN vb)) = f0) := Lib.hid (by rw [← hvb]; exact HFV.out)
                have HV3 : Hid (vb ≠ 2) := Lib.hid (by rw [← hvb]; exact HV2.out)
                clear HFV HV2 hvb
                rcases hvv with rfl | rfl | rfl | rfl | rfl | rfl | rfl | rfl | rfl | rfl | rfl
                · have HFD := HFV2
                  clear HFV2 HV3
                  by_cases hz : nn = 0
                  · have HF : Hid (true = f0) := Lib.hid (by rw [← HFD.out, hz] <;> rfl)
                    rw [hz] at q12
                    clear hz
                    go_wp2_with (first
                      | ((with_reducible refine at_op ⟨_, .load 24 (.tmp 85), _, _, _, _⟩ ?_); refine wpList_load_list rfl 24 (.tmp 85) rfl ⟨w.heap.size, 2, none⟩ rfl [.int .u32 0, .int .i64 0, .string ⟨#[]⟩, .string ⟨#[]⟩, .string ⟨#[]⟩, .int .i64 0, .int .i64 0, .int .i64 0, .int .i64 0] HRQ.out _ Tryz.underlying24 rfl (by kernel_rfl) ?_)
                      | fail)
                    go_ret
                    exact ⟨ret_bool HF.out, HBW.out⟩
                  · have HF : Hid (false = f0) := Lib.hid (by
                      rw [← HFD.out]
                      symm
                      rw [Bool.and_eq_false_iff, decide_eq_false_iff_not, decide_eq_false_iff_not]
                      show ¬ (0 : Int) ≤ nn ∨ ¬ nn ≤ 0
                      omega)
                    have hz' : (nn == 0) = false := by rw [beq_eq_false_iff_ne]; exact hz
                    go_wp2_with (first
                      | ((with_reducible refine at_op ⟨_, .load 24 (.tmp 85), _, _, _, _⟩ ?_); refine wpList_load_list rfl 24 (.tmp 85) rfl ⟨w.heap.size, 2, none⟩ rfl [.int .u32 0, .int .i64 0, .string ⟨#[]⟩, .string ⟨#[]⟩, .string ⟨#[]⟩, .int .i64 0, .int .i64 0, .int .i64 0, .int .i64 0] HRQ.out _ Tryz.underlying24 rfl (by kernel_rfl) ?_)
                      | fail)
                    go_ret
                    exact ⟨ret_bool HF.out, HBW.out⟩
                · have HFD := HFV2
                  clear HFV2 HV3
                  by_cases hz : nn = 0
                  · have HF : Hid (true = f0) := Lib.hid (by rw [← HFD.out, hz] <;> rfl)
                    rw [hz] at q12
                    clear hz
                    go_wp2_with (first
                      | ((with_reducible refine at_op ⟨_, .load 24 (.tmp 85), _, _, _, _⟩ ?_); refine wpList_load_list rfl 24 (.tmp 85) rfl ⟨w.heap.size, 2, none⟩ rfl [.int .u32 0, .int .i64 0, .string ⟨#[]⟩, .string ⟨#[]⟩, .string ⟨#[]⟩, .int .i64 0, .int .i64 0, .int .i64 0, .int .i64 0] HRQ.out _ Tryz.underlying24 rfl (by kernel_rfl) ?_)
                      | fail)
                    go_ret
                    exact ⟨ret_bool HF.out, HBW.out⟩
                  · have HF : Hid (false = f0) := Lib.hid (by
                      rw [← HFD.out]
                      symm
                      rw [Bool.and_eq_false_iff, decide_eq_false_iff_not, decide_eq_false_iff_not]
                      show ¬ (0 : Int) ≤ nn ∨ ¬ nn ≤ 0
                      omega)
                    have hz' : (nn == 0) = false := by rw [beq_eq_false_iff_ne]; exact hz
                    go_wp2_with (first
                      | ((with_reducible refine at_op ⟨_, .load 24 (.tmp 85), _, _, _, _⟩ ?_); refine wpList_load_list rfl 24 (.tmp 85) rfl ⟨w.heap.size, 2, none⟩ rfl [.int .u32 0, .int .i64 0, .string ⟨#[]⟩, .string ⟨#[]⟩, .string ⟨#[]⟩, .int .i64 0, .int .i64 0, .int .i64 0, .int .i64 0] HRQ.out _ Tryz.underlying24 rfl (by kernel_rfl) ?_)
                      | fail)
                    go_ret
                    exact ⟨ret_bool HF.out, HBW.out⟩
                · exact absurd rfl HV3.out
                · have HFD := HFV2
                  clear HFV2 HV3
                  by_cases hz : nn = 0
                  · have HF : Hid (true = f0) := Lib.hid (by rw [← HFD.out, hz] <;> rfl)
                    rw [hz] at q12
                    clear hz
                    go_wp2_with (first
                      | ((with_reducible refine at_op ⟨_, .load 24 (.tmp 85), _, _, _, _⟩ ?_); refine wpList_load_list rfl 24 (.tmp 85) rfl ⟨w.heap.size, 2, none⟩ rfl [.int .u32 0, .int .i64 0, .string ⟨#[]⟩, .string ⟨#[]⟩, .string ⟨#[]⟩, .int .i64 0, .int .i64 0, .int .i64 0, .int .i64 0] HRQ.out _ Tryz.underlying24 rfl (by kernel_rfl) ?_)
                      | fail)
                    go_ret
                    exact ⟨ret_bool HF.out, HBW.out⟩
                  · have HF : Hid (false = f0) := Lib.hid (by
                      rw [← HFD.out]
                      symm
                      rw [Bool.and_eq_false_iff, decide_eq_false_iff_not, decide_eq_false_iff_not]
                      show ¬ (0 : Int) ≤ nn ∨ ¬ nn ≤ 0
                      omega)
                    have hz' : (nn == 0) = false := by rw [beq_eq_false_iff_ne]; exact hz
                    go_wp2_with (first
                      | ((with_reducible refine at_op ⟨_, .load 24 (.tmp 85), _, _, _, _⟩ ?_); refine wpList_load_list rfl 24 (.tmp 85) rfl ⟨w.heap.size, 2, none⟩ rfl [.int .u32 0, .int .i64 0, .string ⟨#[]⟩, .string ⟨#[]⟩, .string ⟨#[]⟩, .int .i64 0, .int .i64 0, .int .i64 0, .int .i64 0] HRQ.out _ Tryz.underlying24 rfl (by kernel_rfl) ?_)
                      | fail)
                    go_ret
                    exact ⟨ret_bool HF.out, HBW.out⟩
                · have HFD := HFV2
                  clear HFV2 HV3
                  by_cases hlo : 0 ≤ nn
                  · by_cases hhi : nn ≤ 1125899906842624
                    · have HF : Hid (true = f0) := Lib.hid (by rw [← HFD.out, show loN 4 = 0 from rfl, show hiN 4 = 1125899906842624 from rfl, decide_eq_true hlo, decide_eq_true hhi] <;> rfl)
                      go_wp2_with (first
                        | ((with_reducible refine at_op ⟨_, .load 24 (.tmp 85), _, _, _, _⟩ ?_); refine wpList_load_list rfl 24 (.tmp 85) rfl ⟨w.heap.size, 2, none⟩ rfl [.int .u32 0, .int .i64 0, .string ⟨#[]⟩, .string ⟨#[]⟩, .string ⟨#[]⟩, .int .i64 0, .int .i64 0, .int .i64 0, .int .i64 0] HRQ.out _ Tryz.underlying24 rfl (by kernel_rfl) ?_)
                        | fail)
                      all_goals
                        go_ret
                        exact ⟨ret_bool (by rw [← HF.out] <;> (first | rfl | (simp; omega) | omega)), HBW.out⟩
                    · have HF : Hid (false = f0) := Lib.hid (by rw [← HFD.out, show hiN 4 = 1125899906842624 from rfl, decide_eq_false hhi, Bool.and_false])
                      go_wp2_with (first
                        | ((with_reducible refine at_op ⟨_, .load 24 (.tmp 85), _, _, _, _⟩ ?_); refine wpList_load_list rfl 24 (.tmp 85) rfl ⟨w.heap.size, 2, none⟩ rfl [.int .u32 0, .int .i64 0, .string ⟨#[]⟩, .string ⟨#[]⟩, .string ⟨#[]⟩, .int .i64 0, .int .i64 0, .int .i64 0, .int .i64 0] HRQ.out _ Tryz.underlying24 rfl (by kernel_rfl) ?_)
                        | fail)
                      all_goals
                        go_ret
                        exact ⟨ret_bool (by rw [← HF.out] <;> (first | rfl | (simp; omega) | omega)), HBW.out⟩
                  · have HF : Hid (false = f0) := Lib.hid (by rw [← HFD.out, show loN 4 = 0 from rfl, decide_eq_false hlo] <;> rfl)
                    go_wp2_with (first
                      | ((with_reducible refine at_op ⟨_, .load 24 (.tmp 85), _, _, _, _⟩ ?_); refine wpList_load_list rfl 24 (.tmp 85) rfl ⟨w.heap.size, 2, none⟩ rfl [.int .u32 0, .int .i64 0, .string ⟨#[]⟩, .string ⟨#[]⟩, .string ⟨#[]⟩, .int .i64 0, .int .i64 0, .int .i64 0, .int .i64 0] HRQ.out _ Tryz.underlying24 rfl (by kernel_rfl) ?_)
                      | fail)
                    all_goals
                      go_ret
                      exact ⟨ret_bool (by rw [← HF.out] <;> (first | rfl | (simp; omega) | omega)), HBW.out⟩
                · have HFD := HFV2
                  clear HFV2 HV3
                  by_cases hz : nn = 0
                  · have HF : Hid (true = f0) := Lib.hid (by rw [← HFD.out, hz] <;> rfl)
                    rw [hz] at q12
                    clear hz
                    go_wp2_with (first
                      | ((with_reducible refine at_op ⟨_, .load 24 (.tmp 85), _, _, _, _⟩ ?_); refine wpList_load_list rfl 24 (.tmp 85) rfl ⟨w.heap.size, 2, none⟩ rfl [.int .u32 0, .int .i64 0, .string ⟨#[]⟩, .string ⟨#[]⟩, .string ⟨#[]⟩, .int .i64 0, .int .i64 0, .int .i64 0, .int .i64 0] HRQ.out _ Tryz.underlying24 rfl (by kernel_rfl) ?_)
                      | fail)
                    go_ret
                    exact ⟨ret_bool HF.out, HBW.out⟩
                  · have HF : Hid (false = f0) := Lib.hid (by
                      rw [← HFD.out]
                      symm
                      rw [Bool.and_eq_false_iff, decide_eq_false_iff_not, decide_eq_false_iff_not]
                      show ¬ (0 : Int) ≤ nn ∨ ¬ nn ≤ 0
                      omega)
                    have hz' : (nn == 0) = false := by rw [beq_eq_false_iff_ne]; exact hz
                    go_wp2_with (first
                      | ((with_reducible refine at_op ⟨_, .load 24 (.tmp 85), _, _, _, _⟩ ?_); refine wpList_load_list rfl 24 (.tmp 85) rfl ⟨w.heap.size, 2, none⟩ rfl [.int .u32 0, .int .i64 0, .string ⟨#[]⟩, .string ⟨#[]⟩, .string ⟨#[]⟩, .int .i64 0, .int .i64 0, .int .i64 0, .int .i64 0] HRQ.out _ Tryz.underlying24 rfl (by kernel_rfl) ?_)
                      | fail)
                    go_ret
                    exact ⟨ret_bool HF.out, HBW.out⟩
                · have HFD := HFV2
                  clear HFV2 HV3
                  by_cases hlo : 0 ≤ nn
                  · by_cases hhi : nn ≤ 1073741824
                    · have HF : Hid (true = f0) := Lib.hid (by rw [← HFD.out, show loN 6 = 0 from rfl, show hiN 6 = 1073741824 from rfl, decide_eq_true hlo, decide_eq_true hhi] <;> rfl)
                      go_wp2_with (first
                        | ((with_reducible refine at_op ⟨_, .load 24 (.tmp 85), _, _, _, _⟩ ?_); refine wpList_load_list rfl 24 (.tmp 85) rfl ⟨w.heap.size, 2, none⟩ rfl [.int .u32 0, .int .i64 0, .string ⟨#[]⟩, .string ⟨#[]⟩, .string ⟨#[]⟩, .int .i64 0, .int .i64 0, .int .i64 0, .int .i64 0] HRQ.out _ Tryz.underlying24 rfl (by kernel_rfl) ?_)
                        | fail)
                      all_goals
                        go_ret
                        exact ⟨ret_bool (by rw [← HF.out] <;> (first | rfl | (simp; omega) | omega)), HBW.out⟩
                    · have HF : Hid (false = f0) := Lib.hid (by rw [← HFD.out, show hiN 6 = 1073741824 from rfl, decide_eq_false hhi, Bool.and_false])
                      go_wp2_with (first
                        | ((with_reducible refine at_op ⟨_, .load 24 (.tmp 85), _, _, _, _⟩ ?_); refine wpList_load_list rfl 24 (.tmp 85) rfl ⟨w.heap.size, 2, none⟩ rfl [.int .u32 0, .int .i64 0, .string ⟨#[]⟩, .string ⟨#[]⟩, .string ⟨#[]⟩, .int .i64 0, .int .i64 0, .int .i64 0, .int .i64 0] HRQ.out _ Tryz.underlying24 rfl (by kernel_rfl) ?_)
                        | fail)
                      all_goals
                        go_ret
                        exact ⟨ret_bool (by rw [← HF.out] <;> (first | rfl | (simp; omega) | omega)), HBW.out⟩
                  · have HF : Hid (false = f0) := Lib.hid (by rw [← HFD.out, show loN 6 = 0 from rfl, decide_eq_false hlo] <;> rfl)
                    go_wp2_with (first
                      | ((with_reducible refine at_op ⟨_, .load 24 (.tmp 85), _, _, _, _⟩ ?_); refine wpList_load_list rfl 24 (.tmp 85) rfl ⟨w.heap.size, 2, none⟩ rfl [.int .u32 0, .int .i64 0, .string ⟨#[]⟩, .string ⟨#[]⟩, .string ⟨#[]⟩, .int .i64 0, .int .i64 0, .int .i64 0, .int .i64 0] HRQ.out _ Tryz.underlying24 rfl (by kernel_rfl) ?_)
                      | fail)
                    all_goals
                      go_ret
                      exact ⟨ret_bool (by rw [← HF.out] <;> (first | rfl | (simp; omega) | omega)), HBW.out⟩
                · have HFD := HFV2
                  clear HFV2 HV3
                  by_cases hlo : (-1) ≤ nn
                  · by_cases hhi : nn ≤ 1073741824
                    · have HF : Hid (true = f0) := Lib.hid (by rw [← HFD.out, show loN 7 = (-1) from rfl, show hiN 7 = 1073741824 from rfl, decide_eq_true hlo, decide_eq_true hhi] <;> rfl)
                      go_wp2_with (first
                        | ((with_reducible refine at_op ⟨_, .load 24 (.tmp 85), _, _, _, _⟩ ?_); refine wpList_load_list rfl 24 (.tmp 85) rfl ⟨w.heap.size, 2, none⟩ rfl [.int .u32 0, .int .i64 0, .string ⟨#[]⟩, .string ⟨#[]⟩, .string ⟨#[]⟩, .int .i64 0, .int .i64 0, .int .i64 0, .int .i64 0] HRQ.out _ Tryz.underlying24 rfl (by kernel_rfl) ?_)
                        | fail)
                      all_goals
                        go_ret
                        exact ⟨ret_bool (by rw [← HF.out] <;> (first | rfl | (simp; omega) | omega)), HBW.out⟩
                    · have HF : Hid (false = f0) := Lib.hid (by rw [← HFD.out, show hiN 7 = 1073741824 from rfl, decide_eq_false hhi, Bool.and_false])
                      go_wp2_with (first
                        | ((with_reducible refine at_op ⟨_, .load 24 (.tmp 85), _, _, _, _⟩ ?_); refine wpList_load_list rfl 24 (.tmp 85) rfl ⟨w.heap.size, 2, none⟩ rfl [.int .u32 0, .int .i64 0, .string ⟨#[]⟩, .string ⟨#[]⟩, .string ⟨#[]⟩, .int .i64 0, .int .i64 0, .int .i64 0, .int .i64 0] HRQ.out _ Tryz.underlying24 rfl (by kernel_rfl) ?_)
                        | fail)
                      all_goals
                        go_ret
                        exact ⟨ret_bool (by rw [← HF.out] <;> (first | rfl | (simp; omega) | omega)), HBW.out⟩
                  · have HF : Hid (false = f0) := Lib.hid (by rw [← HFD.out, show loN 7 = (-1) from rfl, decide_eq_false hlo] <;> rfl)
                    go_wp2_with (first
                      | ((with_reducible refine at_op ⟨_, .load 24 (.tmp 85), _, _, _, _⟩ ?_); refine wpList_load_list rfl 24 (.tmp 85) rfl ⟨w.heap.size, 2, none⟩ rfl [.int .u32 0, .int .i64 0, .string ⟨#[]⟩, .string ⟨#[]⟩, .string ⟨#[]⟩, .int .i64 0, .int .i64 0, .int .i64 0, .int .i64 0] HRQ.out _ Tryz.underlying24 rfl (by kernel_rfl) ?_)
                      | fail)
                    all_goals
                      go_ret
                      exact ⟨ret_bool (by rw [← HF.out] <;> (first | rfl | (simp; omega) | omega)), HBW.out⟩
                · have HFD := HFV2
                  clear HFV2 HV3
                  by_cases hz : nn = 0
                  · have HF : Hid (true = f0) := Lib.hid (by rw [← HFD.out, hz] <;> rfl)
                    rw [hz] at q12
                    clear hz
                    go_wp2_with (first
                      | ((with_reducible refine at_op ⟨_, .load 24 (.tmp 85), _, _, _, _⟩ ?_); refine wpList_load_list rfl 24 (.tmp 85) rfl ⟨w.heap.size, 2, none⟩ rfl [.int .u32 0, .int .i64 0, .string ⟨#[]⟩, .string ⟨#[]⟩, .string ⟨#[]⟩, .int .i64 0, .int .i64 0, .int .i64 0, .int .i64 0] HRQ.out _ Tryz.underlying24 rfl (by kernel_rfl) ?_)
                      | fail)
                    go_ret
                    exact ⟨ret_bool HF.out, HBW.out⟩
                  · have HF : Hid (false = f0) := Lib.hid (by
                      rw [← HFD.out]
                      symm
                      rw [Bool.and_eq_false_iff, decide_eq_false_iff_not, decide_eq_false_iff_not]
                      show ¬ (0 : Int) ≤ nn ∨ ¬ nn ≤ 0
                      omega)
                    have hz' : (nn == 0) = false := by rw [beq_eq_false_iff_ne]; exact hz
                    go_wp2_with (first
                      | ((with_reducible refine at_op ⟨_, .load 24 (.tmp 85), _, _, _, _⟩ ?_); refine wpList_load_list rfl 24 (.tmp 85) rfl ⟨w.heap.size, 2, none⟩ rfl [.int .u32 0, .int .i64 0, .string ⟨#[]⟩, .string ⟨#[]⟩, .string ⟨#[]⟩, .int .i64 0, .int .i64 0, .int .i64 0, .int .i64 0] HRQ.out _ Tryz.underlying24 rfl (by kernel_rfl) ?_)
                      | fail)
                    go_ret
                    exact ⟨ret_bool HF.out, HBW.out⟩
                · have HFD := HFV2
                  clear HFV2 HV3
                  by_cases hz : nn = 0
                  · have HF : Hid (true = f0) := Lib.hid (by rw [← HFD.out, hz] <;> rfl)
                    rw [hz] at q12
                    clear hz
                    go_wp2_with (first
                      | ((with_reducible refine at_op ⟨_, .load 24 (.tmp 85), _, _, _, _⟩ ?_); refine wpList_load_list rfl 24 (.tmp 85) rfl ⟨w.heap.size, 2, none⟩ rfl [.int .u32 0, .int .i64 0, .string ⟨#[]⟩, .string ⟨#[]⟩, .string ⟨#[]⟩, .int .i64 0, .int .i64 0, .int .i64 0, .int .i64 0] HRQ.out _ Tryz.underlying24 rfl (by kernel_rfl) ?_)
                      | fail)
                    go_ret
                    exact ⟨ret_bool HF.out, HBW.out⟩
                  · have HF : Hid (false = f0) := Lib.hid (by
                      rw [← HFD.out]
                      symm
                      rw [Bool.and_eq_false_iff, decide_eq_false_iff_not, decide_eq_false_iff_not]
                      show ¬ (0 : Int) ≤ nn ∨ ¬ nn ≤ 0
                      omega)
                    have hz' : (nn == 0) = false := by rw [beq_eq_false_iff_ne]; exact hz
                    go_wp2_with (first
                      | ((with_reducible refine at_op ⟨_, .load 24 (.tmp 85), _, _, _, _⟩ ?_); refine wpList_load_list rfl 24 (.tmp 85) rfl ⟨w.heap.size, 2, none⟩ rfl [.int .u32 0, .int .i64 0, .string ⟨#[]⟩, .string ⟨#[]⟩, .string ⟨#[]⟩, .int .i64 0, .int .i64 0, .int .i64 0, .int .i64 0] HRQ.out _ Tryz.underlying24 rfl (by kernel_rfl) ?_)
                      | fail)
                    go_ret
                    exact ⟨ret_bool HF.out, HBW.out⟩
                · have HFD := HFV2
                  clear HFV2 HV3
                  by_cases hz : nn = 0
                  · have HF : Hid (true = f0) := Lib.hid (by rw [← HFD.out, hz] <;> rfl)
                    rw [hz] at q12
                    clear hz
                    go_wp2_with (first
                      | ((with_reducible refine at_op ⟨_, .load 24 (.tmp 85), _, _, _, _⟩ ?_); refine wpList_load_list rfl 24 (.tmp 85) rfl ⟨w.heap.size, 2, none⟩ rfl [.int .u32 0, .int .i64 0, .string ⟨#[]⟩, .string ⟨#[]⟩, .string ⟨#[]⟩, .int .i64 0, .int .i64 0, .int .i64 0, .int .i64 0] HRQ.out _ Tryz.underlying24 rfl (by kernel_rfl) ?_)
                      | fail)
                    go_ret
                    exact ⟨ret_bool HF.out, HBW.out⟩
                  · have HF : Hid (false = f0) := Lib.hid (by
                      rw [← HFD.out]
                      symm
                      rw [Bool.and_eq_false_iff, decide_eq_false_iff_not, decide_eq_false_iff_not]
                      show ¬ (0 : Int) ≤ nn ∨ ¬ nn ≤ 0
                      omega)
                    have hz' : (nn == 0) = false := by rw [beq_eq_false_iff_ne]; exact hz
                    go_wp2_with (first
                      | ((with_reducible refine at_op ⟨_, .load 24 (.tmp 85), _, _, _, _⟩ ?_); refine wpList_load_list rfl 24 (.tmp 85) rfl ⟨w.heap.size, 2, none⟩ rfl [.int .u32 0, .int .i64 0, .string ⟨#[]⟩, .string ⟨#[]⟩, .string ⟨#[]⟩, .int .i64 0, .int .i64 0, .int .i64 0, .int .i64 0] HRQ.out _ Tryz.underlying24 rfl (by kernel_rfl) ?_)
                      | fail)
                    go_ret
                    exact ⟨ret_bool HF.out, HBW.out⟩
end Go.Proofs.YtepalbldleegiaaGreatDoor.sh
