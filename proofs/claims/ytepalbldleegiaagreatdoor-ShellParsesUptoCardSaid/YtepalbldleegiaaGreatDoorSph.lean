/-
  The program's request out of the parts of a line: walked.
  Conditions: parts of at most 4096 bytes; the two errors' variables hold errors.
-/
import Derived.Test.YtepalbldleegiaaGreatDoorSpg
import Derived.Test.YtepalbldleegiaaGreatDoorSzg
namespace Go.Proofs.YtepalbldleegiaaGreatDoor.sh
open Go.RowKit
open Go.Lib (itoa decDigits byteCells atoiAll)

def ReadsQ (pg : Nat) (w : World) (o : Option (Req × List Bs)) (e : Ending) (w' : World) : Prop :=
  match o with
  | none => e = .panicked am ∧ w.grownBy w' (some pg)
  | some (q, r) => e = .returned (.agg (reqA q)) ∧ w.grownBy w' (some pg) ∧ PartsAt w' pg r
theorem readFs_cons (q : Req) (f : Fd) (fs : List Fd) (ps : List Bs) : readFs q (f :: fs) ps = (readF1 q f ps).bind fun x => readFs x.1 fs x.2 := by
  cases ps with
  | nil => rfl
  | cons p r =>
    simp only [readFs, readF1]
    cases readF q p f <;> rfl
def reqP2 (n : Int) : List Bs → Option (Req × List Bs)
  | [] => none
  | x :: rest => if n < 0 ∨ 4294967295 < n then none else (findW x opWords 1).bind fun op => readFs { req0 with id := n, op := op } (fieldsOf op) rest
theorem S_inj {a b : Bs} (h : S a = S b) : a = b := by
  have := congrArg (fun x => x.data.toList) h
  simpa [S] using this
theorem numR_some {l r : List Bs} {n : Int} (h : numR l = some (n, r)) : ∃ p, l = p :: r ∧ numP p = some n := by
  cases l with
  | nil => cases h
  | cons p r' =>
    simp only [numR, Option.map_eq_some_iff] at h
    obtain ⟨m, hm, e⟩ := h
    injection e with e1 e2
    subst e1 e2
    exact ⟨p, rfl, hm⟩
theorem numR_none {l : List Bs} (h : numR l = none) : requestP l = none := by
  match l, h with
  | [], _ => rfl
  | [p], _ => rfl
  | p :: q :: r, h =>
    simp only [numR, Option.map_eq_none_iff] at h
    simp only [requestP, h, Option.bind_none]
theorem findW_drop (p : Bs) : ∀ (ws : List Bs) (k j : Nat), (∀ i, i < j → ws[i]? ≠ some p) → findW p ws k = findW p (ws.drop j) (k + j)
  | _, k, 0, _ => by simp
  | [], k, j + 1, _ => by simp [findW]
  | x :: ws, k, j + 1, h => by
    have h0 : x ≠ p := fun e => h 0 (Nat.succ_pos _) (by rw [e]; rfl)
    rw [findW, if_neg h0, findW_drop p ws (k + 1) j fun i hi => by have := h (i + 1) (by omega); simpa using this]
    rw [List.drop_succ_cons, Nat.add_assoc, Nat.add_comm 1 j]
theorem blk_ne {w : World} {g g' : Nat} {t t' : TypeId} {cs cs' : Array Value} (h : Blk w g t cs) (h' : Blk w g' t' cs') (ht : t ≠ t') : g ≠ g' := by
  intro e
  subst e
  unfold Blk at h h'
  rw [h] at h'
  injection h' with h'
  injection h' with h1 h2
  exact ht h2
theorem FldOK.gb2 {w w' : World} {F : Option Addr} {l : List Fd} {pg b : Nat} {ps : List Bs} {q : Array Value} (h : FldOK w F l) (hp : PartsAt w pg ps) (hb : Blk w b 24 q) (hg : Gb2 pg b w w') : FldOK w' F l := fun hn => by
  obtain ⟨f, cs, e, hB, hc⟩ := h hn
  obtain ⟨-, g, k, cap, hP, -⟩ := hp
  exact ⟨f, cs, e, hg.blk hB (blk_ne hB hP (by decide)) (blk_ne hB hb (by decide)), hc⟩
theorem Errs.gb2 {w w' : World} {pg b : Nat} (h : Errs w) (hg : Gb2 pg b w w') (h6 : 6 ≤ pg) (h7 : 6 ≤ b) : Errs w' := by
  obtain ⟨h0, ⟨t, p, h1⟩, t', p', h2⟩ := h
  exact ⟨Nat.lt_of_lt_of_le h0 hg.size, ⟨t, p, (World.cell?_of_block (w := w) (a := ⟨4, 0, none⟩) (hg.block 4 (by omega) (by omega) (by omega))).trans h1⟩, t', p', (World.cell?_of_block (w := w) (a := ⟨5, 0, none⟩) (hg.block 5 (by omega) (by omega) (by omega))).trans h2⟩
theorem reqC_one (q : Req) : ∀ u ∈ reqC q, u.oneCell' = true := by
  intro u hu
  simp only [reqC, List.mem_cons, List.not_mem_nil, or_false] at hu
  rcases hu with rfl | rfl | rfl | rfl | rfl | rfl | rfl | rfl | rfl <;> rfl
theorem req_list {w : World} {b : Nat} {q : Req} (h : Blk w b 24 (reqA q)) : ∀ (j : Nat) (v : Value), (reqC q)[j]? = some v → w.cell? ((⟨b, 0, none⟩ : Addr).add j) = some v := fun j v hv => by
  rw [add_flat, Nat.zero_add, h.cell]
  simpa [reqC, reqA] using hv
theorem put_req (z : Array Value) (hz : z.size = 9) (q : Req) : putFrom z 0 (reqC q) = reqA q := by
  apply Array.ext
  · rw [putFrom_size, hz]; rfl
  · intro i h1 h2
    have h9 : i < 9 := by rw [putFrom_size, hz] at h1; exact h1
    have := putFrom_in (reqC q) z 0 i (by exact h9) (by rw [hz]; exact Nat.le_refl 9)
    rw [Nat.zero_add, Array.getElem?_eq_getElem h1] at this
    have e : (reqA q)[i]? = (reqC q)[i]? := by simp [reqA, reqC]
    rw [← e, Array.getElem?_eq_getElem h2] at this
    exact Option.some.inj this
theorem wordAt_get (k : Nat) (h0 : 1 ≤ k) (h1 : k < 16) : opWords[k - 1]? = some (wordAt k) := by
  have : ∀ i : Fin 15, opWords[i.val]? = some (wordAt (i.val + 1)) := by decide
  have := this ⟨k - 1, by omega⟩
  rw [this]
  simp only
  rw [show k - 1 + 1 = k by omega]

set_option maxRecDepth 100000 in
set_option maxHeartbeats 8000000 in
theorem request_read (pg : Nat) (l : List Bs) (w : World) (h : PartsAt w pg l) (he : Errs w) (hl : ∀ p ∈ l, p.length ≤ 4096) :
    Calls Tryz.prog 42 #[.pointer (some ⟨pg, 0, none⟩)] w (ReadsQ pg w (requestP l)) := by
  obtain ⟨res, hres⟩ : ∃ x, requestP l = x := ⟨_, rfl⟩
  rw [hres]
  have HRES := Lib.hid hres
  have HL := Lib.hid hl
  have H6 := Lib.hid h.1
  have HPL := Lib.hid h.lt
  clear hres hl
  have hb0 : Below w.heap.size w (w.alloc (.cells #[.int .u32 0, .int .i64 0, .string ⟨#[]⟩, .string ⟨#[]⟩, .string ⟨#[]⟩, .int .i64 0, .int .i64 0, .int .i64 0, .int .i64 0] 24)) := (Below.refl _ _).alloc (Nat.le_refl _) _
  have hT0 := Blk.new w 24 #[.int .u32 0, .int .i64 0, .string ⟨#[]⟩, .string ⟨#[]⟩, .string ⟨#[]⟩, .int .i64 0, .int .i64 0, .int .i64 0, .int .i64 0]
  have HB0 := Lib.hid hb0
  have HT0 := Lib.hid hT0
  clear hb0 hT0
  go_enter Tryz.func42, Tryz.ntmps42
  go_upto_region 1 with fail
  generalize hw0 : w.alloc _ = w0 at HB0 HT0 ⊢
  have HP0 := Lib.hid (h.below HB0.out)
  have HE0 := Lib.hid (he.below HB0.out)
  clear hw0 h he
  go_wp2_with fail
  refine (numR_any pg l w0 HP0.out HE0.out HL.out).mono ?_
  rcases hn : numR l with _ | ⟨n, r⟩
  · rintro e w1 ⟨rfl, hg⟩
    have HF : Hid (res = none) := Lib.hid (by rw [← HRES.out, numR_none hn])
    have HG1 : Hid (w.grownBy w1 (some pg)) := gb_trans (gb_below pg HB0.out) hg
    clear hn hg
    go_wp2_with fail
    refine ⟨rfl, ?_⟩
    rw [HF.out]
    exact ⟨rfl, HG1.out⟩
  rintro e w1 ⟨rfl, hg, hp1⟩
  obtain ⟨pn, hpn, hpn2⟩ := numR_some hn
  have HR1 : Hid (res = reqP2 n r) := Lib.hid (by
    rw [← HRES.out, hpn]
    cases r with
    | nil => rfl
    | cons x rest => simp only [requestP, hpn2, Option.bind_some, reqP2])
  have HLr : Hid (∀ p ∈ r, p.length ≤ 4096) := Lib.hid fun p hp => HL.out p (by rw [hpn]; exact List.mem_cons_of_mem _ hp)
  have HG1 : Hid (w.grownBy w1 (some pg)) := gb_trans (gb_below pg HB0.out) hg
  have HP1 := Lib.hid hp1
  have HE1 := Lib.hid (HE0.out.gb hg H6.out)
  have HT1 : Hid (Blk w1 w.heap.size 24 _) := HT0.out.gb hg (Nat.ne_of_gt HPL.out)
  clear hn hpn hpn2 hg hp1
  by_cases hneg : n < 0
  · have HF : Hid (res = none) := Lib.hid (by
      rw [HR1.out]
      cases r with
      | nil => rfl
      | cons x rest => simp only [reqP2, if_pos (Or.inl hneg)])
    go_wp2_with fail
    all_goals
      refine ⟨rfl, ?_⟩
      rw [HF.out]
      exact ⟨rfl, HG1.out⟩
  by_cases hbig : 4294967295 < n
  · have HF : Hid (res = none) := Lib.hid (by
      rw [HR1.out]
      cases r with
      | nil => rfl
      | cons x rest => simp only [reqP2, if_pos (Or.inr hbig)])
    go_wp2_with fail
    all_goals
      refine ⟨rfl, ?_⟩
      rw [HF.out]
      exact ⟨rfl, HG1.out⟩
  cases r with
  | nil =>
    have HF : Hid (res = none) := HR1.out
    go_wp2_with fail
    refine (next_none pg w1 HP1.out).mono ?_
    rintro e w2 ⟨rfl, hg⟩
    have HG2 := Lib.hid (gb_trans HG1.out hg)
    clear hg
    go_wp2_with fail
    refine ⟨rfl, ?_⟩
    rw [HF.out]
    exact ⟨rfl, HG2.out⟩
  | cons p rest =>
    have HR2 : Hid (res = (findW p opWords 1).bind fun op => readFs { req0 with id := n, op := op } (fieldsOf op) rest) := Lib.hid (by rw [HR1.out]; simp only [reqP2, if_neg (by omega : ¬ (n < 0 ∨ 4294967295 < n))])
    have HLq : Hid (∀ p ∈ rest, p.length ≤ 4096) := Lib.hid fun q hq => HLr.out q (List.mem_cons_of_mem _ hq)
    go_wp2_with fail
    refine (next_some pg p rest w1 HP1.out).mono ?_
    rintro e w2 ⟨rfl, hg, hp2⟩
    have HG2 := Lib.hid (gb_trans HG1.out hg)
    have HP2 := Lib.hid hp2
    have HE2 := Lib.hid (HE1.out.gb hg H6.out)
    have HT2 : Hid (Blk w2 w.heap.size 24 _) := HT1.out.gb hg (Nat.ne_of_gt HPL.out)
    clear hg hp2 HR1
    have hwr : IntKind.u32.wrap n = n := by
      simp [IntKind.wrap, IntKind.signed, IntKind.bits]
      omega
    have HN := Lib.hid (And.intro hneg hbig)
    clear hneg hbig
    go_wp2_with fail
    go_loopw [5] (fun s5 wr => ∃ k : Nat, 1 ≤ k ∧ k ≤ 16 ∧ s5 = .int .i64 (k : Int) ∧ Hid (∀ i, i < k - 1 → opWords[i]? ≠ some p) ∧ Hid (Below w2.heap.size w2 wr)) (fun s5 _ => 16 - (intOf s5).toNat)
    case atStart => exact ⟨1, Nat.le_refl _, by omega, rfl, Lib.hid (fun i hi => by omega), Below.refl _ _⟩
    case round =>
      obtain ⟨k, hk1, hk16, rfl, HNO, HBr⟩ := hrel
      by_cases hlt : k < 16
      · obtain ⟨wk, hwk⟩ : ∃ x, wordAt k = x := ⟨_, rfl⟩
        have HW := Lib.hid hwk
        clear hwk
        go_wp2_with fail
        refine (operations_full wr).mono ?_
        rintro e w3 ⟨g, rfl, -, -, hb3⟩
        have HB3 : Hid (Below w2.heap.size w2 w3) := HBr.out.trans (hb3.mono HBr.out.size)
        clear hb3
        go_wp2_with fail
        refine (operations_full w3).mono ?_
        rintro e w4 ⟨g, rfl, hgl, hall, hb4⟩
        have HB4 : Hid (Below w2.heap.size w2 w4) := HB3.out.trans (hb4.mono HB3.out.size)
        have q0 : w4.cell? ⟨g, k * 2, none⟩ = some (.string (S wk)) := by rw [← HW.out]; exact (hall k hlt).1
        clear hb4 hall
        by_cases he : wk = p
        · subst he
          obtain ⟨fl, hfl⟩ : ∃ x, fieldsN k = x := ⟨_, rfl⟩
          have HFW : Hid (findW wk opWords 1 = some k) := Lib.hid (by
            have h15 := findW_op (k : Int) ⟨by omega, by omega⟩
            have e : opL (k : Int) = wk := by
              rw [← HW.out]
              have : ∀ i : Fin 15, opL ((i.val + 1 : Nat) : Int) = wordAt (i.val + 1) := by decide
              have := this ⟨k - 1, by omega⟩
              simp only at this
              rwa [show k - 1 + 1 = k by omega] at this
            rw [e] at h15
            rw [h15]
            simp)
          obtain ⟨q0', hq0⟩ : ∃ q : Req, q = { req0 with id := n, op := (k : Int) } := ⟨_, rfl⟩
          have HR3 : Hid (res = readFs q0' fl rest) := Lib.hid (by
            rw [HR2.out, HFW.out, Option.bind_some, hq0, ← hfl]
            rfl)
          have hT5 : Blk (w4.alloc (.cells #[.int .u32 n, .int .i64 (k : Int), .string ⟨#[]⟩, .string ⟨#[]⟩, .string ⟨#[]⟩, .int .i64 0, .int .i64 0, .int .i64 0, .int .i64 0] 24)) w4.heap.size 24 (reqA q0') := by
            rw [hq0]
            exact Blk.new w4 _ _
          have hb5 : Below w4.heap.size w4 (w4.alloc (.cells #[.int .u32 n, .int .i64 (k : Int), .string ⟨#[]⟩, .string ⟨#[]⟩, .string ⟨#[]⟩, .int .i64 0, .int .i64 0, .int .i64 0, .int .i64 0] 24)) := (Below.refl _ _).alloc (Nat.le_refl _) _
          have HT5 := Lib.hid hT5
          have HB5 := Lib.hid hb5
          clear hT5 hb5 hq0
          go_wp2_with fail
          generalize hw5 : w4.alloc _ = w5 at HT5 HB5 ⊢
          clear hw5
          refine (operations_full w5).mono ?_
          rintro e w6 ⟨g, rfl, hg6, hall, hb6⟩
          obtain ⟨F, hF1, hF2⟩ := (hall k hlt).2
          rw [hfl] at hF1 hF2
          have HF2 := Lib.hid hF2
          have HB6 : Hid (Below w2.heap.size w2 w6) := (HB4.out.trans (HB5.out.mono HB4.out.size)).trans (hb6.mono (Nat.le_trans HB4.out.size HB5.out.size))
          have HT6 : Hid (Blk w6 w4.heap.size 24 (reqA q0')) := HT5.out.below hb6 HT5.out.lt
          have HP6 : Hid (PartsAt w6 pg rest) := Lib.hid (HP2.out.below HB6.out)
          have HE6 : Hid (Errs w6) := HE2.out.below HB6.out
          have HTR6 : Hid (Blk w6 w.heap.size 24 _) := HT2.out.below HB6.out HT2.out.lt
          have HRL : Hid (w.heap.size < w4.heap.size) := Nat.lt_of_lt_of_le HT2.out.lt HB4.out.size
          have HGb : Hid (w.grownBy w6 (some pg)) := gb_trans HG2.out (gb_below pg HB6.out)
          have hll : fl.length ≤ 5 := by rw [← hfl]; unfold fieldsN; split <;> decide
          have q1 : w6.cell? ⟨g, k * 2 + 1, none⟩ = some (.slice F fl.length fl.length) := hF1
          clear hb6 hall hF1 hF2 q0 hfl hwr
          go_wp2_with fail
          clear q1
          go_loopw [44] (fun i wr' => ∃ (j : Nat) (q : Req) (ps : List Bs), j ≤ fl.length ∧ i = .int .i64 (j : Int) ∧ Hid (readFs q0' fl rest = readFs q (fl.drop j) ps) ∧ Hid (∀ p ∈ ps, p.length ≤ 4096) ∧ Hid (Blk wr' w4.heap.size 24 (reqA q)) ∧ Hid (PartsAt wr' pg ps) ∧ Hid (FldOK wr' F fl) ∧ Hid (Gb2 pg w4.heap.size w6 wr') ∧ Hid (Errs wr')) (fun i _ => fl.length - (intOf i).toNat)
          case atStart => exact ⟨0, q0', rest, Nat.zero_le _, rfl, Lib.hid (by rw [List.drop_zero]), HLq, HT6, HP6, HF2, Lib.hid (Gb2.of (gb_refl _ _)), HE6⟩
          case round =>
            obtain ⟨j, q, ps, hj, rfl, HRD, HLp, HTr, HPr, HFr, HGr, HEr⟩ := hrel
            by_cases hjl : j < fl.length
            · obtain ⟨fb_, cs, rfl, hB, hcl⟩ := HFr.out (by intro e; rw [e] at hjl; simp at hjl)
              obtain ⟨fd, hfd⟩ : ∃ x, fl[j] = x := ⟨_, rfl⟩
              have RS : Hid (∀ (k : Nat) (v : Value), (fnL (fdW fd) (fdR fd))[k]? = some v → wr.cell? ((⟨fb_, j * 2, none⟩ : Addr).add k) = some v) := Lib.hid (fun k v h => by
                rw [add_flat, hB.cell]
                exact hcl j fd (by rw [← hfd]; exact List.getElem?_eq_getElem hjl) k v h)
              have HRE : Hid (readFs q0' fl rest = (readF1 q fd ps).bind fun x => readFs x.1 (fl.drop (j + 1)) x.2) := Lib.hid (by
                rw [HRD.out, List.drop_eq_getElem_cons hjl, hfd, readFs_cons])
              clear hcl hB hfd
              go_upto_region 13 with (first
                | ((with_reducible refine at_op ⟨_, .load 104 (.tmp 46), _, _, _, _⟩ ?_); refine wpList_load_list rfl 104 (.tmp 46) rfl ⟨fb_, j * 2, none⟩ rfl (fnL (fdW fd) (fdR fd)) RS.out _ Tryz.underlying104 rfl (by kernel_rfl) ?_)
                | ((with_reducible refine at_op ⟨_, .store 104 (.tmp 8) (.tmp 47), _, _, _, _⟩ ?_); refine wpList_store_blk rfl 104 (.tmp 8) (.tmp 47) rfl wr.heap.size 0 rfl (fnL (fdW fd) (fdR fd)) rfl (fnL_one _ _) 104 #[.nilFunc, .nilFunc] (Blk.new wr 104 #[.nilFunc, .nilFunc]) (show 0 + 2 ≤ 2 from Nat.le_refl 2) (by kernel_rfl) ?_; intro w7 hT7 hg7 hs7; have HT7 := Lib.hid hT7; have HG7 := Lib.hid hg7; have HS7 := Lib.hid hs7; clear hT7 hg7 hs7)
                | fail)
              have hbb : Below wr.heap.size wr w7 := below_gb ((Below.refl _ _).alloc (Nat.le_refl _) _) HG7.out (le_alloc _ (Nat.le_refl _)) (Nat.le_refl _)
              have HT8 : Hid (Blk w7 w4.heap.size 24 (reqA q)) := HTr.out.below hbb HTr.out.lt
              have HP8 : Hid (PartsAt w7 pg ps) := Lib.hid (HPr.out.below hbb)
              have HF8 : Hid (FldOK w7 (some ⟨fb_, 0, none⟩) fl) := HFr.out.below hbb
              have HE8 : Hid (Errs w7) := HEr.out.below hbb
              have HG8 : Hid (Gb2 pg w4.heap.size w6 w7) := HGr.out.trans (Gb2.of (gb_below pg hbb))
              have q1 : w7.cell? ⟨wr.heap.size, 1, none⟩ = some (.func (.func (fdR fd)) #[] #[]) := (HT7.out.cell 1).trans (by simp [putFrom, fnL])
              have HPB : Hid (pg < w4.heap.size) := Lib.hid (Nat.lt_trans HPL.out HRL.out)
              have HFA := Lib.hid (fieldR_any fd w4.heap.size pg q ps w7 HT8.out HPB.out HP8.out HE8.out HLp.out)
              have HCF : Hid (fd = fd) := rfl
              clear hbb HT7 HG7 HS7 HTr HPr HFr HEr HGr RS HRD
              have hcf : ∀ args w, (callFunc (fdR fd) args).run Tryz.prog w = .ok (.enter (fdR fd) args) w := fun args w => by cases fd <;> exact cf_enter (by kernel_rfl) _ _
              go_wp2_with fail
              refine HFA.out.mono ?_
              rcases hrd : readF1 q fd ps with _ | ⟨q', r'⟩
              · rintro e w8 ⟨rfl, hg8⟩
                have HF : Hid (res = none) := Lib.hid (by rw [HR3.out, HRE.out, hrd]; rfl)
                have HG9 : Hid (w.grownBy w8 (some pg)) := Gb2.back HGb.out (HG8.out.trans hg8) (Nat.le_of_lt HRL.out)
                clear hrd hg8 hcf
                go_wp2_with fail
                refine ⟨rfl, ?_⟩
                rw [HF.out]
                exact ⟨rfl, HG9.out⟩
              · rintro e w8 ⟨rfl, hg8, hp8, ht8⟩
                have HRD2 : Hid (readFs q0' fl rest = readFs q' (fl.drop (j + 1)) r') := Lib.hid (by rw [HRE.out, hrd]; rfl)
                have HF9 : Hid (FldOK w8 (some ⟨fb_, 0, none⟩) fl) := HF8.out.gb2 HP8.out HT8.out hg8
                have HG9 : Hid (Gb2 pg w4.heap.size w6 w8) := HG8.out.trans hg8
                have HE9 : Hid (Errs w8) := HE8.out.gb2 hg8 H6.out (Nat.le_trans H6.out (Nat.le_of_lt HPB.out))
                have HL9 : Hid (∀ p ∈ r', p.length ≤ 4096) := Lib.hid (by
                  cases ps with
                  | nil => cases hrd
                  | cons p0 ps0 =>
                    simp only [readF1, Option.map_eq_some_iff] at hrd
                    obtain ⟨x, -, e⟩ := hrd
                    injection e with e1 e2
                    subst e2
                    exact fun p hp => HLp.out p (List.mem_cons_of_mem _ hp))
                have HP9 := Lib.hid hp8
                have HT9 := Lib.hid ht8
                clear hrd hg8 hp8 ht8 hcf q1
                go_wp2_with fail
                go_roundw
                case rel => exact ⟨j + 1, q', r', by omega, by go_num, HRD2, HL9, HT9, HP9, HF9, HG9, HE9⟩
                case measure => simp [intOf]; omega
            · obtain rfl : j = fl.length := by omega
              have HF : Hid (res = some (q, ps)) := Lib.hid (by rw [HR3.out, HRD.out, List.drop_length]; rfl)
              have HTR : Hid (Blk wr w.heap.size 24 _) := HGr.out.blk HTR6.out (Nat.ne_of_gt HPL.out) (Nat.ne_of_lt HRL.out)
              have HGG : Hid (w.grownBy wr (some pg)) := Gb2.back HGb.out HGr.out (Nat.le_of_lt HRL.out)
              go_wp2_with (first
                | ((with_reducible refine at_op ⟨_, .load 24 (.tmp 6), _, _, _, _⟩ ?_); refine wpList_load_list rfl 24 (.tmp 6) rfl ⟨w4.heap.size, 0, none⟩ rfl (reqC q) (req_list HTr.out) _ Tryz.underlying24 rfl (by kernel_rfl) ?_)
                | ((with_reducible refine at_op ⟨_, .store 24 (.tmp 2) (.tmp 53), _, _, _, _⟩ ?_); refine wpList_store_blk rfl 24 (.tmp 2) (.tmp 53) rfl w.heap.size 0 rfl (reqC q) rfl (reqC_one q) 24 _ HTR.out (show 0 + 9 ≤ 9 from Nat.le_refl 9) (by kernel_rfl) ?_; intro w7 hT7 hg7 hs7; have HT7 := Lib.hid hT7; have HG7 := Lib.hid hg7; clear hT7 hg7 hs7)
                | fail)
              have HT9 : Hid (Blk w7 w.heap.size 24 (reqA q)) := Lib.hid (by
                have := HT7.out
                rw [put_req _ rfl] at this
                exact this)
              refine bodyPost_ret (results_cell_row rfl _ _ w.heap.size 24 (reqA q) (0, 0) _ rfl HT9.out Tryz.underlying24 rfl (by kernel_rfl)) rfl ?_
              rw [HF.out]
              exact ⟨rfl, gb_own HGG.out HG7.out (fun k e => by injection e with e; omega), parts_far HPr.out HG7.out HPL.out⟩
        · have hne : ((S wk).toList == (S p).toList) = false := by rw [beq_eq_false_iff_ne, S_list, S_list]; exact he
          have HNO2 : Hid (∀ i, i < k → opWords[i]? ≠ some p) := Lib.hid fun i hi => by
            by_cases hik : i = k - 1
            · rw [hik, wordAt_get k hk1 hlt, HW.out]
              exact fun e => he (Option.some.inj e)
            · exact HNO.out i (by omega)
          clear he
          go_wp2_with fail
          go_roundw
          case rel => exact ⟨k + 1, by omega, by omega, by go_num, Lib.hid (fun i hi => HNO2.out i (by omega)), HB4⟩
          case measure => simp [intOf]; omega
      · obtain rfl : k = 16 := by omega
        have HF : Hid (res = none) := Lib.hid (by
          rw [HR2.out, findW_drop p opWords 1 15 HNO.out]
          rfl)
        go_wp2_with fail
        refine (operations_full wr).mono ?_
        rintro e w3 ⟨g, rfl, -, -, hb3⟩
        have HG3 : Hid (w.grownBy w3 (some pg)) := gb_trans HG2.out (gb_below pg (HBr.out.trans (hb3.mono HBr.out.size)))
        clear hb3
        go_wp2_with fail
        refine ⟨rfl, ?_⟩
        rw [HF.out]
        exact ⟨rfl, HG3.out⟩
end Go.Proofs.YtepalbldleegiaaGreatDoor.sh
