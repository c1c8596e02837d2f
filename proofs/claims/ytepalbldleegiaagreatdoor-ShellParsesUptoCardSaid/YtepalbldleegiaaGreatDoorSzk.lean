/-
  The document's Print: walked.
  Conditions: numbers as their types have them.
-/
import Derived.Test.YtepalbldleegiaaGreatDoorSzj
import Derived.Test.YtepalbldleegiaaGreatDoorSzg
namespace Go.Proofs.YtepalbldleegiaaGreatDoor.sh
open Go.RowKit
open Go.Lib (itoa decDigits byteCells)

def midB (c : Cmd) : Bs :=
  if c.verb = 0 ∨ c.verb = 1 ∨ c.verb = 6 then 32 :: itoa c.conn
  else if c.verb = 2 then (32 :: itoa c.conn) ++ (32 :: itoa c.req.id) ++ reqStr c.req
  else if c.verb = 3 then (32 :: itoa c.conn) ++ (32 :: rawL c.raw)
  else []
def numB (c : Cmd) : Bs := if c.verb = 4 ∨ c.verb = 6 ∨ c.verb = 7 then 32 :: itoa c.n else []
def pickB (l : List Int) : Bs := l.flatMap fun x => 32 :: itoa x
def wordB (c : Cmd) : Bs := verbWords.getD c.verb.toNat []
theorem line_mid (c : Cmd) (hv : 0 ≤ c.verb ∧ c.verb ≤ 10) (hw : within c = true) : lineL c = wordB c ++ midB c ++ numB c ++ pickB c.picks := by
  have hp : c.verb = 5 ∨ c.verb = 8 ∨ c.picks = [] := by
    unfold within at hw
    simp only [Bool.and_eq_true] at hw
    have h2 := hw.2
    by_cases h : c.verb = 2
    · rw [if_pos h] at h2
      simp only [Bool.and_eq_true, decide_eq_true_eq] at h2
      exact Or.inr (Or.inr h2.2)
    · rw [if_neg h] at h2
      simp only [Bool.and_eq_true, Bool.or_eq_true, decide_eq_true_eq] at h2
      rcases h2.2 with (h3 | h3) | h3
      · exact Or.inl h3
      · exact Or.inr (Or.inl h3)
      · exact Or.inr (Or.inr h3)
  unfold lineL wordB midB numB pickB writeV
  rw [joinB_cons]
  obtain ⟨v, cn, r, rw_, n, pk⟩ := c
  simp only at hv hp ⊢
  rcases int_cases11 v hv with rfl | rfl | rfl | rfl | rfl | rfl | rfl | rfl | rfl | rfl | rfl
  all_goals
    first
      | (have hp' : pk = [] := by simpa using hp
         subst hp'
         simp [reqStr, List.flatMap_map])
      | simp [List.flatMap_map]
theorem reqI_of {c : Cmd} (h : cmdI c) : reqI c.req := ⟨h.2.2.2.1, h.2.2.2.2.1, h.2.2.2.2.2.2.2.1, h.2.2.2.2.2.2.2.2.1, h.2.2.2.2.2.2.2.2.2.1⟩
theorem req_len {r : Req} (h : reqI r) : (reqStr r).length ≤ 20972100 := by
  have h1 := flat_len h (fieldsOf r.op)
  have h2 := fields5 r.op
  have h3 : (opL r.op).length ≤ 23 := op_len h.1.1 h.1.2
  unfold reqStr
  simp only [List.length_cons, List.length_append]
  omega
theorem pick_len : ∀ l : List Int, (∀ x ∈ l, I64 x) → (pickB l).length ≤ l.length * 22 := by
  intro l
  induction l with
  | nil => intro _; simp [pickB]
  | cons x l ih =>
    intro h
    have h1 := ih fun y hy => h y (List.mem_cons_of_mem _ hy)
    have h2 := itoa_len (h x List.mem_cons_self).1 (h x List.mem_cons_self).2
    unfold pickB at h1 ⊢
    simp only [List.flatMap_cons, List.length_append, List.length_cons] at h1 ⊢
    omega
theorem num_len {c : Cmd} (h : cmdI c) : (numB c).length ≤ 22 := by
  have h2 := itoa_len h.2.2.1.1 h.2.2.1.2
  unfold numB
  split
  · rw [List.length_cons]; omega
  · simp
theorem mid_len {c : Cmd} (h : cmdI c) (hr : c.raw.length ≤ 4096) : (midB c).length ≤ 20973000 := by
  have h1 := itoa_len h.2.1.1 h.2.1.2
  have hid := h.2.2.2.2.2.1
  have h2 := itoa_len (n := c.req.id) (by omega) (by omega)
  have h3 := req_len (reqI_of h)
  have h4 : (rawL c.raw).length ≤ 8200 := by
    unfold rawL
    split
    · simp
    · rw [hexs_len]; omega
  unfold midB
  split
  · rw [List.length_cons]; omega
  · split
    · simp only [List.length_cons, List.length_append]; omega
    · split
      · simp only [List.length_cons, List.length_append]; omega
      · simp

set_option maxRecDepth 100000 in
set_option maxHeartbeats 8000000 in
theorem rprint_any (c : Cmd) (A : Option Addr) (a : Nat) (P : Option Addr) (p : Nat) (w : World) (hI : cmdI c) (hr : BytesAt w w.heap.size A c.raw) (hp : IntsAt w w.heap.size P c.picks) :
    Calls Tryz.prog 10 #[.agg (cmdC c (.slice A c.raw.length a) (.slice P c.picks.length p))] w fun e w' => e = .returned (prV (printL c)) ∧ Below w.heap.size w w' := by
  have hT0 := Blk.new w 28 (cmdC c (.slice A c.raw.length a) (.slice P c.picks.length p))
  have hB0 : Below w.heap.size w (w.alloc (.cells (cmdC c (.slice A c.raw.length a) (.slice P c.picks.length p)) 28)) := (Below.refl _ _).alloc (Nat.le_refl _) _
  have HI := Lib.hid hI
  have HR := Lib.hid (hr.up hB0)
  have HP := Lib.hid (hp.up hB0)
  clear hI hr hp
  have HT0 := Lib.hid hT0
  have HB0 := Lib.hid hB0
  clear hT0 hB0
  obtain ⟨res, hres⟩ : ∃ v, prV (printL c) = v := ⟨_, rfl⟩
  rw [hres]
  have HRES := Lib.hid hres
  clear hres
  generalize hcs : cmdC c (.slice A c.raw.length a) (.slice P c.picks.length p) = cs at HR HP HT0 HB0 ⊢
  have HCS := Lib.hid hcs
  clear hcs
  go_enter Tryz.func10, Tryz.ntmps10
  go_upto_region 1 with fail
  generalize hw0 : w.alloc _ = w0 at HR HP HT0 HB0 ⊢
  clear hw0
  have hT0 := HT0.out
  rw [← HCS.out] at hT0
  replace HT0 : Hid (Blk w0 w.heap.size 28 (cmdC c (.slice A c.raw.length a) (.slice P c.picks.length p))) := hT0
  clear hT0 HCS
  have K0 : Hid (∀ w', Below w0.heap.size w0 w' → w'.cell? ⟨w.heap.size, 0, none⟩ = some (.int .i64 c.verb)) := Lib.hid fun w' hb => (HT0.out.below hb HT0.out.lt).cell 0
  have K1 : Hid (∀ w', Below w0.heap.size w0 w' → w'.cell? ⟨w.heap.size, 1, none⟩ = some (.int .i64 c.conn)) := Lib.hid fun w' hb => (HT0.out.below hb HT0.out.lt).cell 1
  have K2 : Hid (∀ w', Below w0.heap.size w0 w' → w'.cell? ⟨w.heap.size, 2, none⟩ = some (.int .u32 c.req.id)) := Lib.hid fun w' hb => (HT0.out.below hb HT0.out.lt).cell 2
  have K11 : Hid (∀ w', Below w0.heap.size w0 w' → w'.cell? ⟨w.heap.size, 11, none⟩ = some (.slice A c.raw.length a)) := Lib.hid fun w' hb => (HT0.out.below hb HT0.out.lt).cell 11
  have K12 : Hid (∀ w', Below w0.heap.size w0 w' → w'.cell? ⟨w.heap.size, 12, none⟩ = some (.int .i64 c.n)) := Lib.hid fun w' hb => (HT0.out.below hb HT0.out.lt).cell 12
  have K13 : Hid (∀ w', Below w0.heap.size w0 w' → w'.cell? ⟨w.heap.size, 13, none⟩ = some (.slice P c.picks.length p)) := Lib.hid fun w' hb => (HT0.out.below hb HT0.out.lt).cell 13
  go_cut [21] (fun s21 wx => s21 = .bool (!fine c) ∧ Hid (Below w0.heap.size w0 wx))
  case first =>
    go_wp2_with (first
      | ((with_reducible refine at_op ⟨_, .load 28 (.tmp 1), _, _, _, _⟩ ?_); refine wpList_load_list rfl 28 (.tmp 1) rfl ⟨w.heap.size, 0, none⟩ rfl (cmdL c (.slice A c.raw.length a) (.slice P c.picks.length p)) (cmd_load HT0.out) _ Tryz.underlying28 rfl (by kernel_rfl) ?_)
      | fail)
    refine (right_any c A a P p w0 HI.out).mono ?_
    rintro e w1 ⟨rfl, hb1⟩
    have q11 : w1.cell? ⟨w.heap.size, 11, none⟩ = some (.slice A c.raw.length a) := K11.out w1 hb1
    have q13 : w1.cell? ⟨w.heap.size, 13, none⟩ = some (.slice P c.picks.length p) := K13.out w1 hb1
    have HB1 := Lib.hid hb1
    clear hb1
    have HF := Lib.hid (fine_fine0 c)
    generalize fine0 c = f0 at HF ⊢
    obtain ⟨rl, hrl⟩ : ∃ n, c.raw.length = n := ⟨_, rfl⟩
    obtain ⟨pl, hpl⟩ : ∃ n, c.picks.length = n := ⟨_, rfl⟩
    rw [hrl] at q11
    rw [hpl] at q13
    have HF2 : Hid (fine c = (f0 && decide (rl ≤ 4096) && decide (pl ≤ 4096))) := Lib.hid (by rw [HF.out, hrl, hpl])
    clear hrl hpl HF
    cases f0 with
    | false =>
      go_wp2_with fail
      all_goals
        go_meet
        exact ⟨by rw [HF2.out]; rfl, HB1.out⟩
    | true =>
      by_cases h1 : 4096 < rl
      · go_wp2_with fail
        all_goals
          go_meet
          exact ⟨by rw [HF2.out, decide_eq_false (p := rl ≤ 4096) (by omega)]; simp, HB1.out⟩
      · by_cases h2 : 4096 < pl
        · go_wp2_with fail
          all_goals
            go_meet
            exact ⟨by rw [HF2.out, decide_eq_false (p := pl ≤ 4096) (by omega)] <;> (first | rfl | (simp; done) | (simp; omega)), HB1.out⟩
        · go_wp2_with fail
          all_goals
            go_meet
            exact ⟨by rw [HF2.out, decide_eq_true (p := pl ≤ 4096) (by omega), decide_eq_true (p := rl ≤ 4096) (by omega)] <;> (first | rfl | (simp; done) | (simp; omega)), HB1.out⟩
  case rest =>
    obtain ⟨rfl, HBc⟩ := hcut
    cases hfi : fine c with
    | false =>
      have HF : Hid (prV none = res) := Lib.hid (by rw [← HRES.out, print_no hfi])
      clear hfi
      go_wp2_with fail
      go_ret2
      exact ⟨congrArg Ending.returned HF.out, HB0.out.trans (HBc.out.mono HB0.out.size)⟩
    | true =>
      obtain ⟨hv, hwi, hrl, hpl⟩ := fine_parts hfi
      have HLN : Hid (lineL c = wordB c ++ midB c ++ numB c ++ pickB c.picks) := Lib.hid (line_mid c hv hwi)
      have HFI := Lib.hid hfi
      have HV := Lib.hid hv
      have HPL := Lib.hid hpl
      have HRL := Lib.hid hrl
      clear hfi hwi hv hrl hpl
      obtain ⟨wd, hwd⟩ : ∃ x, wordB c = x := ⟨_, rfl⟩
      have hwl : wd.length ≤ 5 := by rw [← hwd]; exact verbW_len _
      have HWD : Hid ((if 0 ≤ c.verb ∧ c.verb ≤ 10 then verbWords.getD c.verb.toNat [] else []) = wd) := Lib.hid (by rw [if_pos HV.out]; exact hwd)
      rw [hwd] at HLN
      clear hwd
      go_upto_region 3 with fail
      go_cut [4] (fun s4 wx => s4 = .string (S wd) ∧ Hid (Below w0.heap.size w0 wx))
      case first =>
        have q0 : wc.cell? ⟨w.heap.size, 0, none⟩ = some (.int .i64 c.verb) := K0.out wc HBc.out
        have HIv := Lib.hid HI.out.1
        go_wp2_with fail
        refine (verbW_any c.verb HIv.out wc).mono ?_
        rintro e w1 ⟨rfl, hb1⟩
        rw [HWD.out]
        have HB1 : Hid (Below w0.heap.size w0 w1) := HBc.out.trans (hb1.mono HBc.out.size)
        clear hb1 q0
        go_wp2_with fail
        go_meet
        exact ⟨rfl, HB1.out⟩
      case rest =>
        clear HBc
        obtain ⟨rfl, HBc⟩ := hcut
        repeat ((fail_if_success (with_reducible refine at_seq ?_)); first | go_step | go_upon)
        go_step
        go_cut [4] (fun s4 wx => s4 = .string (S (wd ++ midB c)) ∧ Hid (Below w0.heap.size w0 wx))
        case first =>
          obtain ⟨vb, hvb⟩ : ∃ v, c.verb = v := ⟨_, rfl⟩
          have hvv := int_cases11 c.verb HV.out
          have q0 : wc.cell? ⟨w.heap.size, 0, none⟩ = some (.int .i64 c.verb) := K0.out wc HBc.out
          have q1 : wc.cell? ⟨w.heap.size, 1, none⟩ = some (.int .i64 c.conn) := K1.out wc HBc.out
          rw [hvb] at q0 hvv
          have HVB := Lib.hid hvb
          clear hvb
          have HIC : Hid (I64 c.conn) := Lib.hid HI.out.2.1
          obtain ⟨cn, hcn⟩ : ∃ l, itoa c.conn = l := ⟨_, rfl⟩
          have hcl : cn.length ≤ 21 := by rw [← hcn]; exact itoa_len HIC.out.1 HIC.out.2
          have HCN := Lib.hid hcn
          clear hcn
          have hadd1 : ∀ W, (Op.stringOp .add (S wd) (⟨#[32]⟩ : ByteArray)).run Tryz.prog W = .ok (.string (S (wd ++ [32]))) W := fun W => S_add wd [32] (by simp only [List.length_cons, List.length_nil]; omega) W
          have hadd2 : ∀ W, (Op.stringOp .add (S (wd ++ [32])) (S cn)).run Tryz.prog W = .ok (.string (S ((wd ++ [32]) ++ cn))) W := fun W => S_add (wd ++ [32]) cn (by simp only [List.length_append, List.length_cons, List.length_nil]; omega) W
          obtain ⟨o2, ho2⟩ : ∃ l, (wd ++ [32]) ++ cn = l := ⟨_, rfl⟩
          have hol2 : o2.length ≤ 27 := by rw [← ho2]; simp only [List.length_append, List.length_cons, List.length_nil]; omega
          rw [ho2] at hadd2
          have HO2 : Hid (o2 = wd ++ 32 :: itoa c.conn) := Lib.hid (by rw [← ho2, ← HCN.out]; simp)
          clear ho2
          obtain ⟨o1, ho1⟩ : ∃ l, wd ++ [32] = l := ⟨_, rfl⟩
          rw [ho1] at hadd1 hadd2
          clear ho1
          rcases hvv with rfl | rfl | rfl | rfl | rfl | rfl | rfl | rfl | rfl | rfl | rfl
          · go_wp2_with fail
            refine (rnumber_any c.conn HIC.out.1 HIC.out.2 wc).mono ?_
            rintro e w1 ⟨rfl, hb1⟩
            rw [HCN.out]
            have HB1 : Hid (Below w0.heap.size w0 w1) := HBc.out.trans (hb1.mono HBc.out.size)
            clear hb1 q0 q1
            go_wp2_with fail
            go_meet
            exact ⟨by unfold midB; rw [HVB.out, HO2.out]; rfl, HB1.out⟩
          · go_wp2_with fail
            refine (rnumber_any c.conn HIC.out.1 HIC.out.2 wc).mono ?_
            rintro e w1 ⟨rfl, hb1⟩
            rw [HCN.out]
            have HB1 : Hid (Below w0.heap.size w0 w1) := HBc.out.trans (hb1.mono HBc.out.size)
            clear hb1 q0 q1
            go_wp2_with fail
            go_meet
            exact ⟨by unfold midB; rw [HVB.out, HO2.out]; rfl, HB1.out⟩
          · go_upto_region 10 with fail
            obtain ⟨dn, hdn⟩ : ∃ l, itoa c.req.id = l := ⟨_, rfl⟩
            obtain ⟨rq, hrq⟩ : ∃ l, reqStr c.req = l := ⟨_, rfl⟩
            have hid := HI.out.2.2.2.2.2.1
            have hdl : dn.length ≤ 21 := by rw [← hdn]; exact itoa_len (by omega) (by omega)
            have hql : rq.length ≤ 20972100 := by rw [← hrq]; exact req_len (reqI_of HI.out)
            have hadd3 : ∀ W, (Op.stringOp .add (S o2) (⟨#[32]⟩ : ByteArray)).run Tryz.prog W = .ok (.string (S (o2 ++ [32]))) W := fun W => S_add o2 [32] (by simp only [List.length_cons, List.length_nil]; omega) W
            have hadd4 : ∀ W, (Op.stringOp .add (S (o2 ++ [32])) (S dn)).run Tryz.prog W = .ok (.string (S ((o2 ++ [32]) ++ dn))) W := fun W => S_add (o2 ++ [32]) dn (by simp only [List.length_append, List.length_cons, List.length_nil]; omega) W
            have hadd5 : ∀ W, (Op.stringOp .add (S ((o2 ++ [32]) ++ dn)) (S rq)).run Tryz.prog W = .ok (.string (S (((o2 ++ [32]) ++ dn) ++ rq))) W := fun W => S_add ((o2 ++ [32]) ++ dn) rq (by simp only [List.length_append, List.length_cons, List.length_nil]; omega) W
            have HM : Hid (((o2 ++ [32]) ++ dn) ++ rq = wd ++ midB c) := Lib.hid (by
              rw [HO2.out, ← hdn, ← hrq]
              unfold midB
              rw [HVB.out]
              simp)
            obtain ⟨o3, ho3⟩ : ∃ l, o2 ++ [32] = l := ⟨_, rfl⟩
            rw [ho3] at hadd3 hadd4 hadd5 HM
            obtain ⟨o4, ho4⟩ : ∃ l, o3 ++ dn = l := ⟨_, rfl⟩
            rw [ho4] at hadd4 hadd5 HM
            obtain ⟨o5, ho5⟩ : ∃ l, o4 ++ rq = l := ⟨_, rfl⟩
            rw [ho5] at hadd5 HM
            have HDN := Lib.hid hdn
            have HRQ := Lib.hid hrq
            have hwr : IntKind.i64.wrap c.req.id = c.req.id := by
              simp [IntKind.wrap, IntKind.signed, IntKind.bits]
              omega
            have k1 : ∀ w', Below wc.heap.size wc w' → w'.cell? ⟨w.heap.size, 1, none⟩ = some (.int .i64 c.conn) := fun w' hb => (HT0.out.below (HBc.out.trans (hb.mono HBc.out.size)) HT0.out.lt).cell 1
            have k2 : ∀ w', Below wc.heap.size wc w' → w'.cell? ⟨w.heap.size, 2, none⟩ = some (.int .u32 c.req.id) := fun w' hb => (HT0.out.below (HBc.out.trans (hb.mono HBc.out.size)) HT0.out.lt).cell 2
            have k3 : ∀ w', Below wc.heap.size wc w' → w'.cell? ⟨w.heap.size, 3, none⟩ = some (.int .i64 c.req.op) := fun w' hb => (HT0.out.below (HBc.out.trans (hb.mono HBc.out.size)) HT0.out.lt).cell 3
            have k4 : ∀ w', Below wc.heap.size wc w' → w'.cell? ⟨w.heap.size, 4, none⟩ = some (.string (S c.req.topic)) := fun w' hb => (HT0.out.below (HBc.out.trans (hb.mono HBc.out.size)) HT0.out.lt).cell 4
            have k5 : ∀ w', Below wc.heap.size wc w' → w'.cell? ⟨w.heap.size, 5, none⟩ = some (.string (S c.req.key)) := fun w' hb => (HT0.out.below (HBc.out.trans (hb.mono HBc.out.size)) HT0.out.lt).cell 5
            have k6 : ∀ w', Below wc.heap.size wc w' → w'.cell? ⟨w.heap.size, 6, none⟩ = some (.string (S c.req.value)) := fun w' hb => (HT0.out.below (HBc.out.trans (hb.mono HBc.out.size)) HT0.out.lt).cell 6
            have k7 : ∀ w', Below wc.heap.size wc w' → w'.cell? ⟨w.heap.size, 7, none⟩ = some (.int .i64 c.req.off) := fun w' hb => (HT0.out.below (HBc.out.trans (hb.mono HBc.out.size)) HT0.out.lt).cell 7
            have k8 : ∀ w', Below wc.heap.size wc w' → w'.cell? ⟨w.heap.size, 8, none⟩ = some (.int .i64 c.req.num) := fun w' hb => (HT0.out.below (HBc.out.trans (hb.mono HBc.out.size)) HT0.out.lt).cell 8
            have k9 : ∀ w', Below wc.heap.size wc w' → w'.cell? ⟨w.heap.size, 9, none⟩ = some (.int .i64 c.req.pid) := fun w' hb => (HT0.out.below (HBc.out.trans (hb.mono HBc.out.size)) HT0.out.lt).cell 9
            have k10 : ∀ w', Below wc.heap.size wc w' → w'.cell? ⟨w.heap.size, 10, none⟩ = some (.int .i64 c.req.seq) := fun w' hb => (HT0.out.below (HBc.out.trans (hb.mono HBc.out.size)) HT0.out.lt).cell 10
            have HIDA : -9223372036854775808 ≤ c.req.id := by omega
            have HIDB : c.req.id ≤ 9223372036854775807 := by omega
            have HICA : -9223372036854775808 ≤ c.conn := HIC.out.1
            have HICB : c.conn ≤ 9223372036854775807 := HIC.out.2
            have HRQI := reqI_of HI.out
            clear hdn hrq ho3 ho4 ho5 q0 q1 hdl hql hol2 hid hcl hwl
            go_region_held3 (fun w' => Below wc.heap.size wc w') (first | assumption | exact (Below.refl _ _).drew | fail)
              (first
                | (go_at_call 26; (with_reducible refine (rnumber_any c.conn HICA HICB _).mono ?_); rintro e w1 ⟨rfl, hb1⟩; rw [HCN.out]; have HK1 : Below wc.heap.size wc w1 := ((Below.refl _ _).drew).trans (hb1.mono (Nat.le_refl _)); clear hb1)
                | (go_at_call 26; (with_reducible refine (rnumber_any c.req.id HIDA HIDB _).mono ?_); rintro e w2 ⟨rfl, hb2⟩; rw [HDN.out]; have HK2 : Below wc.heap.size wc w2 := HK1.trans (hb2.mono HK1.size); clear hb2)
                | (go_at_call 27; refine (request_any c.req _ HRQI).mono ?_; rintro e w3 ⟨rfl, hb3⟩; rw [HRQ.out]; have HK3 : Below wc.heap.size wc w3 := HK2.trans (hb3.mono HK2.size); clear hb3)
                | fail)
            all_goals
              go_wp2_with fail
              go_meet
              exact ⟨by rw [HM.out], HBc.out.trans (HK3.mono HBc.out.size)⟩
          · have hadd3 : ∀ W, (Op.stringOp .add (S o2) (⟨#[32]⟩ : ByteArray)).run Tryz.prog W = .ok (.string (S (o2 ++ [32]))) W := fun W => S_add o2 [32] (by simp only [List.length_cons, List.length_nil]; omega) W
            obtain ⟨o3, ho3⟩ : ∃ l, o2 ++ [32] = l := ⟨_, rfl⟩
            have hol3 : o3.length ≤ 28 := by rw [← ho3]; simp only [List.length_append, List.length_cons, List.length_nil]; omega
            rw [ho3] at hadd3
            have HO3 : Hid (o3 = wd ++ 32 :: (itoa c.conn ++ [32])) := Lib.hid (by rw [← ho3, HO2.out]; simp)
            clear ho3
            go_wp2_with fail
            refine (rnumber_any c.conn HIC.out.1 HIC.out.2 wc).mono ?_
            rintro e w1 ⟨rfl, hb1⟩
            rw [HCN.out]
            have HB1 : Hid (Below w0.heap.size w0 w1) := HBc.out.trans (hb1.mono HBc.out.size)
            clear hb1 q0 q1
            go_wp2_with fail
            clear hadd1 hadd2 hadd3
            obtain ⟨rl, hrl⟩ : ∃ n, c.raw.length = n := ⟨_, rfl⟩
            have K11' : Hid (∀ w', Below w0.heap.size w0 w' → w'.cell? ⟨w.heap.size, 11, none⟩ = some (.slice A rl a)) := Lib.hid (by rw [← hrl]; exact K11.out)
            have hr4 : rl ≤ 4096 := by rw [← hrl]; exact HRL.out
            have HRLN := Lib.hid hrl
            clear hrl
            go_loopw [4, 5] (fun s4 i wr => ∃ (j : Nat) (o : Bs), j ≤ rl ∧ i = .int .i64 (j : Int) ∧ s4 = .string (S o) ∧ Hid (o = o3 ++ (c.raw.take j).flatMap hexL) ∧ Hid (Below w0.heap.size w0 wr)) (fun _ i _ => rl - (intOf i).toNat)
            case atStart => exact ⟨0, o3, Nat.zero_le _, rfl, rfl, Lib.hid (by simp), HB1⟩
            case round =>
              obtain ⟨j, o, hj, rfl, rfl, HO, HBr⟩ := hrel
              have q11 : wr.cell? ⟨w.heap.size, 11, none⟩ = some (.slice A rl a) := K11'.out wr HBr.out
              by_cases hlt : j < rl
              · have hlA : j < c.raw.length := by rw [HRLN.out]; exact hlt
                have HRr := (HR.out.up HBr.out)
                obtain ⟨b, off, rfl, hb, hcl⟩ := HRr (by intro e; rw [e] at hlA; simp at hlA)
                obtain ⟨x, hx⟩ : ∃ x, c.raw[j] = x := ⟨_, rfl⟩
                have qx := hcl j x (by rw [← hx]; exact List.getElem?_eq_getElem hlA)
                have hol : o.length ≤ 9000 := by
                  rw [HO.out, List.length_append, hexs_len, List.length_take]
                  omega
                obtain ⟨h, hh⟩ : ∃ l, hexL x = l := ⟨_, rfl⟩
                have hhl : h.length = 2 := by rw [← hh]; rfl
                have HH : Hid (hexL (UInt8.ofNat (x.toNat : Int).toNat) = h) := Lib.hid (by rw [← hh, Int.toNat_natCast]; simp)
                have hadd : ∀ W, (Op.stringOp .add (S o) (S h)).run Tryz.prog W = .ok (.string (S (o ++ h))) W := fun W => S_add o h (by omega) W
                have HN : Hid (o ++ h = o3 ++ (c.raw.take (j + 1)).flatMap hexL) := Lib.hid (by
                  rw [List.take_succ_eq_append_getElem hlA, List.flatMap_append, hx, HO.out, ← hh]
                  simp)
                have hx2 : 0 ≤ (x.toNat : Int) ∧ (x.toNat : Int) ≤ 255 := ⟨by omega, by have := x.toNat_lt; omega⟩
                clear hx hcl hb hh hol hhl
                go_wp2_with fail
                refine (hex_any _ hx2 wr).mono ?_
                rintro e w3 ⟨rfl, hb3⟩
                rw [HH.out]
                have HB3 : Hid (Below w0.heap.size w0 w3) := HBr.out.trans (hb3.mono HBr.out.size)
                clear hb3 qx q11 hx2
                go_wp2_with fail
                go_roundw
                case rel => exact ⟨j + 1, _, by omega, by go_num, rfl, HN, HB3⟩
                case measure => simp [intOf]; omega
              · obtain rfl : j = rl := by omega
                by_cases h0 : j = 0
                · have hol : o.length ≤ 9000 := by rw [HO.out, h0]; simp; omega
                  have hadd : ∀ W, (Op.stringOp .add (S o) (⟨#[45]⟩ : ByteArray)).run Tryz.prog W = .ok (.string (S (o ++ [45]))) W := fun W => S_add o [45] (by simp only [List.length_cons, List.length_nil]; omega) W
                  subst h0
                  have HM : Hid (o ++ [45] = wd ++ midB c) := Lib.hid (by
                    have hn : c.raw = [] := List.eq_nil_of_length_eq_zero HRLN.out
                    rw [HO.out, HO3.out]
                    unfold midB rawL
                    rw [HVB.out, hn]
                    simp)
                  go_wp2_with fail
                  go_meet
                  exact ⟨by rw [HM.out], HBr.out⟩
                · have HM : Hid (o = wd ++ midB c) := Lib.hid (by
                    have hn : c.raw ≠ [] := fun e => h0 (by rw [← HRLN.out, e]; rfl)
                    rw [HO.out, HO3.out, List.take_of_length_le (by rw [HRLN.out]; exact Nat.le_refl _)]
                    unfold midB rawL
                    rw [HVB.out, if_neg hn]
                    simp)
                  have h0' : ((j : Int) == 0) = false := by rw [beq_eq_false_iff_ne]; omega
                  go_wp2_with fail
                  go_meet
                  exact ⟨by rw [HM.out], HBr.out⟩
          · go_wp2_with fail
            go_meet
            exact ⟨by unfold midB; rw [HVB.out]; simp, HBc.out⟩
          · go_wp2_with fail
            go_meet
            exact ⟨by unfold midB; rw [HVB.out]; simp, HBc.out⟩
          · go_wp2_with fail
            refine (rnumber_any c.conn HIC.out.1 HIC.out.2 wc).mono ?_
            rintro e w1 ⟨rfl, hb1⟩
            rw [HCN.out]
            have HB1 : Hid (Below w0.heap.size w0 w1) := HBc.out.trans (hb1.mono HBc.out.size)
            clear hb1 q0 q1
            go_wp2_with fail
            go_meet
            exact ⟨by unfold midB; rw [HVB.out, HO2.out]; rfl, HB1.out⟩
          · go_wp2_with fail
            go_meet
            exact ⟨by unfold midB; rw [HVB.out]; simp, HBc.out⟩
          · go_wp2_with fail
            go_meet
            exact ⟨by unfold midB; rw [HVB.out]; simp, HBc.out⟩
          · go_wp2_with fail
            go_meet
            exact ⟨by unfold midB; rw [HVB.out]; simp, HBc.out⟩
          · go_wp2_with fail
            go_meet
            exact ⟨by unfold midB; rw [HVB.out]; simp, HBc.out⟩
        case rest =>
          clear HBc
          obtain ⟨rfl, HBc⟩ := hcut
          have hml : (wd ++ midB c).length ≤ 20973005 := by
            have := mid_len HI.out HRL.out
            rw [List.length_append]
            omega
          obtain ⟨o1, ho1⟩ : ∃ l, wd ++ midB c = l := ⟨_, rfl⟩
          rw [ho1] at HLN hml
          rw [ho1]
          clear ho1
          repeat ((fail_if_success (with_reducible refine at_seq ?_)); first | go_step | go_upon)
          go_step
          go_cut [4] (fun s4 wx => s4 = .string (S (o1 ++ numB c)) ∧ Hid (Below w0.heap.size w0 wx))
          case first =>
            obtain ⟨vb, hvb⟩ : ∃ v, c.verb = v := ⟨_, rfl⟩
            have hvv := int_cases11 c.verb HV.out
            have q0 : wc.cell? ⟨w.heap.size, 0, none⟩ = some (.int .i64 c.verb) := K0.out wc HBc.out
            rw [hvb] at q0 hvv
            have HVB := Lib.hid hvb
            clear hvb
            rcases hvv with rfl | rfl | rfl | rfl | rfl | rfl | rfl | rfl | rfl | rfl | rfl
            · go_wp2_with fail
              go_meet
              exact ⟨by unfold numB; rw [HVB.out]; simp, HBc.out⟩
            · go_wp2_with fail
              go_meet
              exact ⟨by unfold numB; rw [HVB.out]; simp, HBc.out⟩
            · go_wp2_with fail
              go_meet
              exact ⟨by unfold numB; rw [HVB.out]; simp, HBc.out⟩
            · go_wp2_with fail
              go_meet
              exact ⟨by unfold numB; rw [HVB.out]; simp, HBc.out⟩
            · have q12 : wc.cell? ⟨w.heap.size, 12, none⟩ = some (.int .i64 c.n) := K12.out wc HBc.out
              have HIN : Hid (I64 c.n) := Lib.hid HI.out.2.2.1
              obtain ⟨nn, hnn⟩ : ∃ l, itoa c.n = l := ⟨_, rfl⟩
              have hnl : nn.length ≤ 21 := by rw [← hnn]; exact itoa_len HIN.out.1 HIN.out.2
              have hadd1 : ∀ W, (Op.stringOp .add (S o1) (⟨#[32]⟩ : ByteArray)).run Tryz.prog W = .ok (.string (S (o1 ++ [32]))) W := fun W => S_add o1 [32] (by simp only [List.length_cons, List.length_nil]; omega) W
              have hadd2 : ∀ W, (Op.stringOp .add (S (o1 ++ [32])) (S nn)).run Tryz.prog W = .ok (.string (S ((o1 ++ [32]) ++ nn))) W := fun W => S_add (o1 ++ [32]) nn (by simp only [List.length_append, List.length_cons, List.length_nil]; omega) W
              have HM : Hid ((o1 ++ [32]) ++ nn = o1 ++ numB c) := Lib.hid (by
                rw [← hnn]
                unfold numB
                rw [HVB.out]
                simp)
              obtain ⟨p1, hp1⟩ : ∃ l, o1 ++ [32] = l := ⟨_, rfl⟩
              rw [hp1] at hadd1 hadd2 HM
              obtain ⟨p2, hp2⟩ : ∃ l, p1 ++ nn = l := ⟨_, rfl⟩
              rw [hp2] at hadd2 HM
              have HNN := Lib.hid hnn
              clear hnn hnl hp1 hp2
              go_wp2_with fail
              refine (rnumber_any c.n HIN.out.1 HIN.out.2 wc).mono ?_
              rintro e w1 ⟨rfl, hb1⟩
              rw [HNN.out]
              have HB1 : Hid (Below w0.heap.size w0 w1) := HBc.out.trans (hb1.mono HBc.out.size)
              clear hb1 q0 q12
              go_wp2_with fail
              go_meet
              exact ⟨by rw [HM.out], HB1.out⟩
            · go_wp2_with fail
              go_meet
              exact ⟨by unfold numB; rw [HVB.out]; simp, HBc.out⟩
            · have q12 : wc.cell? ⟨w.heap.size, 12, none⟩ = some (.int .i64 c.n) := K12.out wc HBc.out
              have HIN : Hid (I64 c.n) := Lib.hid HI.out.2.2.1
              obtain ⟨nn, hnn⟩ : ∃ l, itoa c.n = l := ⟨_, rfl⟩
              have hnl : nn.length ≤ 21 := by rw [← hnn]; exact itoa_len HIN.out.1 HIN.out.2
              have hadd1 : ∀ W, (Op.stringOp .add (S o1) (⟨#[32]⟩ : ByteArray)).run Tryz.prog W = .ok (.string (S (o1 ++ [32]))) W := fun W => S_add o1 [32] (by simp only [List.length_cons, List.length_nil]; omega) W
              have hadd2 : ∀ W, (Op.stringOp .add (S (o1 ++ [32])) (S nn)).run Tryz.prog W = .ok (.string (S ((o1 ++ [32]) ++ nn))) W := fun W => S_add (o1 ++ [32]) nn (by simp only [List.length_append, List.length_cons, List.length_nil]; omega) W
              have HM : Hid ((o1 ++ [32]) ++ nn = o1 ++ numB c) := Lib.hid (by
                rw [← hnn]
                unfold numB
                rw [HVB.out]
                simp)
              obtain ⟨p1, hp1⟩ : ∃ l, o1 ++ [32] = l := ⟨_, rfl⟩
              rw [hp1] at hadd1 hadd2 HM
              obtain ⟨p2, hp2⟩ : ∃ l, p1 ++ nn = l := ⟨_, rfl⟩
              rw [hp2] at hadd2 HM
              have HNN := Lib.hid hnn
              clear hnn hnl hp1 hp2
              go_wp2_with fail
              refine (rnumber_any c.n HIN.out.1 HIN.out.2 wc).mono ?_
              rintro e w1 ⟨rfl, hb1⟩
              rw [HNN.out]
              have HB1 : Hid (Below w0.heap.size w0 w1) := HBc.out.trans (hb1.mono HBc.out.size)
              clear hb1 q0 q12
              go_wp2_with fail
              go_meet
              exact ⟨by rw [HM.out], HB1.out⟩
            · have q12 : wc.cell? ⟨w.heap.size, 12, none⟩ = some (.int .i64 c.n) := K12.out wc HBc.out
              have HIN : Hid (I64 c.n) := Lib.hid HI.out.2.2.1
              obtain ⟨nn, hnn⟩ : ∃ l, itoa c.n = l := ⟨_, rfl⟩
              have hnl : nn.length ≤ 21 := by rw [← hnn]; exact itoa_len HIN.out.1 HIN.out.2
              have hadd1 : ∀ W, (Op.stringOp .add (S o1) (⟨#[32]⟩ : ByteArray)).run Tryz.prog W = .ok (.string (S (o1 ++ [32]))) W := fun W => S_add o1 [32] (by simp only [List.length_cons, List.length_nil]; omega) W
              have hadd2 : ∀ W, (Op.stringOp .add (S (o1 ++ [32])) (S nn)).run Tryz.prog W = .ok (.string (S ((o1 ++ [32]) ++ nn))) W := fun W => S_add (o1 ++ [32]) nn (by simp only [List.length_append, List.length_cons, List.length_nil]; omega) W
              have HM : Hid ((o1 ++ [32]) ++ nn = o1 ++ numB c) := Lib.hid (by
                rw [← hnn]
                unfold numB
                rw [HVB.out]
                simp)
              obtain ⟨p1, hp1⟩ : ∃ l, o1 ++ [32] = l := ⟨_, rfl⟩
              rw [hp1] at hadd1 hadd2 HM
              obtain ⟨p2, hp2⟩ : ∃ l, p1 ++ nn = l := ⟨_, rfl⟩
              rw [hp2] at hadd2 HM
              have HNN := Lib.hid hnn
              clear hnn hnl hp1 hp2
              go_wp2_with fail
              refine (rnumber_any c.n HIN.out.1 HIN.out.2 wc).mono ?_
              rintro e w1 ⟨rfl, hb1⟩
              rw [HNN.out]
              have HB1 : Hid (Below w0.heap.size w0 w1) := HBc.out.trans (hb1.mono HBc.out.size)
              clear hb1 q0 q12
              go_wp2_with fail
              go_meet
              exact ⟨by rw [HM.out], HB1.out⟩
            · go_wp2_with fail
              go_meet
              exact ⟨by unfold numB; rw [HVB.out]; simp, HBc.out⟩
            · go_wp2_with fail
              go_meet
              exact ⟨by unfold numB; rw [HVB.out]; simp, HBc.out⟩
            · go_wp2_with fail
              go_meet
              exact ⟨by unfold numB; rw [HVB.out]; simp, HBc.out⟩
          case rest =>
            clear HBc
            obtain ⟨rfl, HBc⟩ := hcut
            have hol2 : (o1 ++ numB c).length ≤ 20973027 := by
              have := num_len HI.out
              rw [List.length_append]
              omega
            obtain ⟨o2, ho2⟩ : ∃ l, o1 ++ numB c = l := ⟨_, rfl⟩
            rw [ho2] at HLN hol2
            rw [ho2]
            clear ho2 hml
            go_wp2_with fail
            obtain ⟨pl, hpl⟩ : ∃ n, c.picks.length = n := ⟨_, rfl⟩
            have K13' : Hid (∀ w', Below w0.heap.size w0 w' → w'.cell? ⟨w.heap.size, 13, none⟩ = some (.slice P pl p)) := Lib.hid (by rw [← hpl]; exact K13.out)
            have hp4 : pl ≤ 4096 := by rw [← hpl]; exact HPL.out
            have HPLN := Lib.hid hpl
            clear hpl
            go_loopw [4, 6] (fun s4 i wr => ∃ (j : Nat) (o : Bs), j ≤ pl ∧ i = .int .i64 (j : Int) ∧ s4 = .string (S o) ∧ Hid (o = o2 ++ pickB (c.picks.take j)) ∧ Hid (Below w0.heap.size w0 wr)) (fun _ i _ => pl - (intOf i).toNat)
            case atStart => exact ⟨0, o2, Nat.zero_le _, rfl, rfl, Lib.hid (by simp [pickB]), HBc⟩
            case round =>
              obtain ⟨j, o, hj, rfl, rfl, HO, HBr⟩ := hrel
              have q13 : wr.cell? ⟨w.heap.size, 13, none⟩ = some (.slice P pl p) := K13'.out wr HBr.out
              have hIP : ∀ x ∈ c.picks, I64 x := HI.out.2.2.2.2.2.2.1
              have hol : o.length ≤ 21100000 := by
                have h1 := pick_len (c.picks.take j) fun x hx => hIP x (List.mem_of_mem_take hx)
                rw [HO.out, List.length_append]
                rw [List.length_take] at h1
                omega
              by_cases hlt : j < pl
              · have hlA : j < c.picks.length := by rw [HPLN.out]; exact hlt
                obtain ⟨b, off, rfl, hb, hcl⟩ := (HP.out.up HBr.out) (by intro e; rw [e] at hlA; simp at hlA)
                obtain ⟨x, hx⟩ : ∃ x, c.picks[j] = x := ⟨_, rfl⟩
                have qx := hcl j x (by rw [← hx]; exact List.getElem?_eq_getElem hlA)
                have HIX : Hid (I64 x) := Lib.hid (hIP x (by rw [← hx]; exact List.getElem_mem hlA))
                obtain ⟨h, hh⟩ : ∃ l, itoa x = l := ⟨_, rfl⟩
                have hhl : h.length ≤ 21 := by rw [← hh]; exact itoa_len HIX.out.1 HIX.out.2
                have hadd1 : ∀ W, (Op.stringOp .add (S o) (⟨#[32]⟩ : ByteArray)).run Tryz.prog W = .ok (.string (S (o ++ [32]))) W := fun W => S_add o [32] (by simp only [List.length_cons, List.length_nil]; omega) W
                have hadd2 : ∀ W, (Op.stringOp .add (S (o ++ [32])) (S h)).run Tryz.prog W = .ok (.string (S ((o ++ [32]) ++ h))) W := fun W => S_add (o ++ [32]) h (by simp only [List.length_append, List.length_cons, List.length_nil]; omega) W
                have HN : Hid ((o ++ [32]) ++ h = o2 ++ pickB (c.picks.take (j + 1))) := Lib.hid (by
                  rw [List.take_succ_eq_append_getElem hlA, hx, HO.out, ← hh]
                  simp [pickB])
                have HH := Lib.hid hh
                obtain ⟨p1, hp1⟩ : ∃ l, o ++ [32] = l := ⟨_, rfl⟩
                rw [hp1] at hadd1 hadd2 HN
                clear hx hcl hb hh hol hhl hp1 hIP
                go_wp2_with fail
                refine (rnumber_any x HIX.out.1 HIX.out.2 wr).mono ?_
                rintro e w3 ⟨rfl, hb3⟩
                rw [HH.out]
                have HB3 : Hid (Below w0.heap.size w0 w3) := HBr.out.trans (hb3.mono HBr.out.size)
                clear hb3 qx q13
                go_wp2_with fail
                go_roundw
                case rel => exact ⟨j + 1, _, by omega, by go_num, rfl, HN, HB3⟩
                case measure => simp [intOf]; omega
              · obtain rfl : j = pl := by omega
                have HM : Hid (lineL c = o) := Lib.hid (by
                  rw [HO.out, HLN.out, List.take_of_length_le (by rw [HPLN.out]; exact Nat.le_refl _)])
                have hsz : (S o).size = o.length := S_size _
                clear hIP
                by_cases h0 : o.length ≤ 4096
                · have HF : Hid (prV (some o) = res) := Lib.hid (by rw [← HRES.out, print_yes HFI.out (by rw [HM.out]; exact h0), HM.out])
                  go_wp2_with fail
                  go_ret2
                  exact ⟨congrArg Ending.returned HF.out, HB0.out.trans (HBr.out.mono HB0.out.size)⟩
                · have HF : Hid (prV none = res) := Lib.hid (by rw [← HRES.out, print_long (by rw [HM.out]; exact h0)])
                  go_wp2_with fail
                  go_ret2
                  exact ⟨congrArg Ending.returned HF.out, HB0.out.trans (HBr.out.mono HB0.out.size)⟩
end Go.Proofs.YtepalbldleegiaaGreatDoor.sh
