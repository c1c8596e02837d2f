/-
  The program's Print walked.
  Conditions: numbers as their types have them; three tables are as they were laid.
-/
import Derived.Test.YtepalbldleegiaaGreatDoorSzf
import Derived.Laws.EntriesVeiled
namespace Go.Proofs.YtepalbldleegiaaGreatDoor.sh
open Go.RowKit
open Go.Lib (itoa decDigits byteCells)

theorem grownBy_refl (w : World) (row : Option Nat) : w.grownBy w row := ⟨rfl, rfl, rfl, Nat.le_refl _, fun _ _ _ => rfl⟩
/-- append of one own list to another, which may be nil -/
theorem step_append_rows {P : Program} {ops : Array Oper} {o : Oper} {a : Act} {w : World} {K : Act → World → Prop} {Q : Exit → Act → World → Prop} {E : Prop}
    (hg : o.guard = none) (s x : Operand) (t : TypeId) (hop : o.op = Op.call { callee := Callee.builtin Builtin.append, args := #[s, x], argTypes := #[t, t] })
    (base : Nat) (e : TypeId) (i : TypeInfo) (z : Value) (size bytes : Nat) (h1 : P.underlying t = some (.slice e)) (h2 : P.info? e = some i) (h3 : i.zero = some z) (h4 : i.size = size) (h5 : i.bytes = bytes) (h6 : z.cells.size = size) (h7 : 0 < size)
    (g cap n : Nat) (xs : List Value) (hs : a.eval s = .slice (some ⟨g, 0, none⟩) n cap) (hown : w.ownsRow base e size (.slice (some ⟨g, 0, none⟩) n cap) n xs)
    (v2 : Value) (base2 m : Nat) (news : List Value) (hx : a.eval x = v2) (hown2 : w.ownsRow base2 e size v2 m news) (h1c : ∀ u ∈ news, u.oneCell' = true)
    (b1 : n + m ≤ maxLen) (b2 : (n + m) * bytes ≤ 140737488355328) (hbase : base ≤ w.heap.size)
    (hK : ∀ v' w', w'.ownsRow base e size v' (n + m) (xs ++ news) → w.grownBy w' (some g) → K (a.put o.dst v') w') :
    if Region.wanted o (yielded ops a.tmps) = true then Oper.wp P o a w K Q else E := by
  rcases hown2.2 with ⟨rfl, hm⟩ | ⟨g2, cap2, cur2, rfl, hb2, hgg2, hnc2, -⟩
  · subst hm
    have hw : Region.wanted o (yielded ops a.tmps) = true := by simp [Region.wanted, hg]
    rw [if_pos hw]
    have hn0 : news = [] := List.eq_nil_of_length_eq_zero (by have := hown2.1; omega)
    subst hn0
    have hnc : n ≤ cap := by
      rcases hown.2 with ⟨h, -⟩ | ⟨g3, cap3, cur3, h, -, -, hnc, -⟩
      · cases h
      · cases h; exact hnc
    have hrun : (Builtin.append_ #[t, t] o.type #[.slice (some ⟨g, 0, none⟩) n cap, .slice none 0 0]).run P w = .ok (.slice (some ⟨g, 0, none⟩) n cap) w := by
      simp [Builtin.append_, run_underlying h1, sizeOf, typeInfo, h2, Builtin.lenOf, hnc, Builtin.firstCells, storeCells]
    unfold Oper.wp
    simp [execOp, hop, resolve, invoke, builtin, hs, hx, hrun, Result.andThen]
    exact hK _ w (by rw [List.append_nil]; exact hown) (grownBy_refl w _)
  · have hc := hown2.cells (g := g2) rfl
    exact step_append_own hg s x t hop base e i z size bytes h1 h2 h3 h4 h5 h6 h7 _ n xs hs hown ⟨g2, 0, none⟩ m cap2 news hx hown2.1 (fun j u hu => hc j u hu) h1c b1 b2 hbase hK

theorem joinB_len (M : Nat) : ∀ (l : List Bs), (∀ p ∈ l, p.length ≤ M) → (joinB l).length ≤ l.length * (M + 1)
  | [], _ => by simp [joinB]
  | [p], h => by have := h p (by simp); simp [joinB]; omega
  | p :: q :: l, h => by
    have h0 := h p (by simp)
    have ih := joinB_len M (q :: l) fun x hx => h x (List.mem_cons_of_mem _ hx)
    rw [joinB]
    simp only [List.length_append, List.length_cons] at ih ⊢
    have e : (l.length + 1 + 1) * (M + 1) = (M + 1) + (l.length + 1) * (M + 1) := by rw [Nat.succ_mul (l.length + 1), Nat.add_comm]
    rw [e]
    omega
theorem verbW_len (i : Nat) : (verbWords.getD i []).length ≤ 5 := by
  by_cases h : i < 11
  · have : ∀ i : Fin 11, (verbWords.getD i.val []).length ≤ 5 := by decide
    exact this ⟨i, h⟩
  · have h2 : verbWords[i]? = none := List.getElem?_eq_none (by have : verbWords.length = 11 := rfl; omega)
    simp [List.getD, h2]
theorem hexs_len (s : Bs) : (s.flatMap hexL).length = 2 * s.length := by
  induction s with
  | nil => rfl
  | cons c s ih => simp only [List.flatMap_cons, List.length_append, ih, List.length_cons]; simp [hexL]; omega
theorem write_len (c : Cmd) (h : cmdI c) : (∀ p ∈ writeV c, p.length ≤ 4194400) ∧ (writeV c).length ≤ 1048584 := by
  obtain ⟨-, hc, hn, hop, ⟨ho, hnu, hp, hs⟩, hid, hpk, ht, hk, hv, hr, hpl⟩ := h
  have e1 := itoa_len hc.1 hc.2
  have e2 := itoa_len hn.1 hn.2
  have e3 := op_len hop.1 hop.2
  have e4 := itoa_len (n := c.req.id) (by omega) (by omega)
  have eF : ∀ f, (writeF c.req f).length ≤ 4194400 := by
    intro f
    have t1 := text_len c.req.topic
    have t2 := text_len c.req.key
    have t3 := text_len c.req.value
    have i1 := itoa_len ho.1 ho.2
    have i2 := itoa_len hnu.1 hnu.2
    have i3 := itoa_len hp.1 hp.2
    have i4 := itoa_len hs.1 hs.2
    cases f <;> simp only [writeF] <;> omega
  have eR : (rawL c.raw).length ≤ 4194400 := by
    unfold rawL
    split
    · simp
    · rw [hexs_len]; omega
  have eP : ∀ p ∈ c.picks.map itoa, p.length ≤ 4194400 := by
    intro p hp
    obtain ⟨x, hx, rfl⟩ := List.mem_map.1 hp
    have := itoa_len (hpk x hx).1 (hpk x hx).2
    omega
  have eO : (fieldsOf c.req.op).length ≤ 5 := by unfold fieldsOf fieldsN; split <;> simp
  unfold writeV
  split
  all_goals
    refine ⟨?_, ?_⟩
    · intro p hp
      first
        | exact eP p hp
        | (simp only [List.mem_cons, List.not_mem_nil, or_false, List.mem_map] at hp; first
            | done
            | (subst hp; omega)
            | (rcases hp with rfl | rfl | rfl | ⟨f, -, rfl⟩ <;> first | omega | exact eF _)
            | (rcases hp with rfl | rfl <;> first | omega | exact eR))
    · simp only [List.length_cons, List.length_nil, List.length_map]; omega
theorem line_len (c : Cmd) (h : cmdI c) : (lineL c).length ≤ 140737488355328 := by
  obtain ⟨hw, hl⟩ := write_len c h
  unfold lineL
  have := joinB_len 4194400 (verbWords.getD c.verb.toNat [] :: writeV c) (by
    intro p hp
    rcases List.mem_cons.1 hp with rfl | hp
    · have := verbW_len c.verb.toNat; omega
    · exact hw p hp)
  refine Nat.le_trans this ?_
  rw [List.length_cons]
  calc ((writeV c).length + 1) * (4194400 + 1) ≤ 1048585 * 4194401 := Nat.mul_le_mul (by omega) (by omega)
    _ ≤ 140737488355328 := by decide
/-- what Print gives -/
def prV : Option Bs → Value
  | some l => .tuple #[.string (S l), .int .i64 0]
  | none => .tuple #[.string ⟨#[]⟩, .int .i64 230]
theorem print_no {c : Cmd} (h : fine c = false) : printL c = none := by unfold printL; rw [h]; simp
theorem print_long {c : Cmd} (h : ¬ (lineL c).length ≤ 4096) : printL c = none := by unfold printL; rw [if_neg fun x => h x.2]
theorem print_yes {c : Cmd} (h : fine c = true) (h2 : (lineL c).length ≤ 4096) : printL c = some (lineL c) := by unfold printL; rw [if_pos ⟨h, h2⟩]

theorem cf_enter {P : Program} {f : FuncId} (h : (P.funcs[f]?).map (fun fn => (fn.name == "runtime.NumGoroutine", fn.body.isSome)) = some (false, true)) (args : Array Value) (w : World) : (callFunc f args).run P w = .ok (.enter f args) w := by
  cases hf : P.funcs[f]? with
  | none => rw [hf] at h; cases h
  | some fn =>
    rw [hf] at h
    simp only [Option.map_some, Option.some.injEq, Prod.mk.injEq] at h
    obtain ⟨h1, h2⟩ := h
    obtain ⟨c, hc⟩ := Option.isSome_iff_exists.1 h2
    have h3 : ¬ fn.name = "runtime.NumGoroutine" := by simpa using h1
    simp [callFunc, hf, h3, hc]
theorem wr_enter (i : Nat) (args : Array Value) (w : World) : (callFunc (wrF i) args).run Tryz.prog w = .ok (.enter (wrF i) args) w := by
  unfold wrF
  split <;> exact cf_enter (by kernel_rfl) _ _
/-- what a verb's writer gives -/
theorem write_any (c : Cmd) (A : Option Addr) (a : Nat) (P : Option Addr) (p : Nat) (w : World) (ht : Tab w) (hI : cmdI c) (hv : 0 ≤ c.verb ∧ c.verb ≤ 10) (ho : c.verb = 2 → 1 ≤ c.req.op ∧ c.req.op ≤ 15) (hr : BytesAt w w.heap.size A c.raw) (hp : IntsAt w w.heap.size P c.picks) :
    Calls Tryz.prog (wrF c.verb.toNat) #[.agg (cmdC c (.slice A c.raw.length a) (.slice P c.picks.length p))] w (WrPost w (writeV c)) := by
  have hI' := hI
  obtain ⟨-, hc, hn, hop, -, -, hpk, -, -, -, hrl, hpl⟩ := hI
  unfold writeV
  have hvv := int_cases11 c.verb hv
  obtain ⟨vb, hvb⟩ : ∃ v, c.verb = v := ⟨_, rfl⟩
  rw [hvb] at hvv ho ⊢
  rcases hvv with rfl | rfl | rfl | rfl | rfl | rfl | rfl | rfl | rfl | rfl | rfl
  · exact label_any c _ _ w ht hc
  · exact label_any c _ _ w ht hc
  · exact said_any c _ _ w ht hI' (ho rfl)
  · exact raw_any c A a _ w ht hc hrl hr
  · exact amount_any c _ _ w ht hn
  · exact picks_any c _ P p w ht hpk hpl hp
  · exact take_any c _ _ w ht hc hn
  · exact amount_any c _ _ w ht hn
  · exact picks_any c _ P p w ht hpk hpl hp
  · exact nothing_any c _ _ w
  · exact nothing_any c _ _ w

theorem cell_al {w : World} {a : Addr} {v : Value} (h : w.cell? a = some v) : ∀ o, (w.alloc o).cell? a = some v := fun o => (World.cell?_alloc_some w a o (by rw [h]; rfl)).trans h
theorem below_set3 {B : Nat} {a w : World} (h : Below B a w) (g : Nat) (hg : B ≤ g) (x y z : Value) : Below B a (((w.setCell ⟨g, 0, none⟩ x).setCell ⟨g, 1, none⟩ y).setCell ⟨g, 2, none⟩ z) :=
  ((h.setCell hg _).setCell hg _).setCell hg _
set_option maxRecDepth 100000 in
set_option maxHeartbeats 8000000 in
theorem print_any (c : Cmd) (A : Option Addr) (a : Nat) (P : Option Addr) (p : Nat) (w : World) (ht : Tab w) (hu : Use w) (hI : cmdI c) (hr : BytesAt w w.heap.size A c.raw) (hp : IntsAt w w.heap.size P c.picks) :
    Calls Tryz.prog 9 #[.agg (cmdC c (.slice A c.raw.length a) (.slice P c.picks.length p))] w fun e w' => e = .returned (prV (printL c)) ∧ Below w.heap.size w w' := by
  obtain ⟨i0, hi0, hz0, hz1, hz2⟩ := info_parts infoStr
  have hT0 := Blk.new w 28 (cmdC c (.slice A c.raw.length a) (.slice P c.picks.length p))
  have hB0 : Below w.heap.size w (w.alloc (.cells (cmdC c (.slice A c.raw.length a) (.slice P c.picks.length p)) 28)) := (Below.refl _ _).alloc (Nat.le_refl _) _
  have HI := Lib.hid hI
  have HR := Lib.hid (hr.up hB0)
  have HP := Lib.hid (hp.up hB0)
  have HTB := Lib.hid (tab_below ht hB0)
  have HU := Lib.hid (use_below hu hB0)
  clear ht hu hI hr hp
  have HT0 := Lib.hid hT0
  have HB0 := Lib.hid hB0
  clear hT0 hB0
  obtain ⟨res, hres⟩ : ∃ v, prV (printL c) = v := ⟨_, rfl⟩
  rw [hres]
  have HRES := Lib.hid hres
  clear hres
  generalize hcs : cmdC c (.slice A c.raw.length a) (.slice P c.picks.length p) = cs at HR HP HTB HU HT0 HB0 ⊢
  have HCS := Lib.hid hcs
  clear hcs
  go_enter Tryz.func9, Tryz.ntmps9
  go_upto_region 1 with fail
  generalize hw0 : w.alloc _ = w0 at HR HP HTB HU HT0 HB0 ⊢
  clear hw0
  have hT0 := HT0.out
  rw [← HCS.out] at hT0
  replace HT0 : Hid (Blk w0 w.heap.size 28 (cmdC c (.slice A c.raw.length a) (.slice P c.picks.length p))) := hT0
  clear hT0 HCS
  have k0 : ∀ w', Below w0.heap.size w0 w' → w'.cell? ⟨w.heap.size, 0, none⟩ = some (.int .i64 c.verb) := fun w' hb => (HT0.out.below hb HT0.out.lt).cell 0
  have k1 : ∀ w', Below w0.heap.size w0 w' → w'.cell? ⟨w.heap.size, 1, none⟩ = some (.int .i64 c.conn) := fun w' hb => (HT0.out.below hb HT0.out.lt).cell 1
  have k2 : ∀ w', Below w0.heap.size w0 w' → w'.cell? ⟨w.heap.size, 2, none⟩ = some (.int .u32 c.req.id) := fun w' hb => (HT0.out.below hb HT0.out.lt).cell 2
  have k3 : ∀ w', Below w0.heap.size w0 w' → w'.cell? ⟨w.heap.size, 3, none⟩ = some (.int .i64 c.req.op) := fun w' hb => (HT0.out.below hb HT0.out.lt).cell 3
  have k4 : ∀ w', Below w0.heap.size w0 w' → w'.cell? ⟨w.heap.size, 4, none⟩ = some (.string (S c.req.topic)) := fun w' hb => (HT0.out.below hb HT0.out.lt).cell 4
  have k5 : ∀ w', Below w0.heap.size w0 w' → w'.cell? ⟨w.heap.size, 5, none⟩ = some (.string (S c.req.key)) := fun w' hb => (HT0.out.below hb HT0.out.lt).cell 5
  have k6 : ∀ w', Below w0.heap.size w0 w' → w'.cell? ⟨w.heap.size, 6, none⟩ = some (.string (S c.req.value)) := fun w' hb => (HT0.out.below hb HT0.out.lt).cell 6
  have k7 : ∀ w', Below w0.heap.size w0 w' → w'.cell? ⟨w.heap.size, 7, none⟩ = some (.int .i64 c.req.off) := fun w' hb => (HT0.out.below hb HT0.out.lt).cell 7
  have k8 : ∀ w', Below w0.heap.size w0 w' → w'.cell? ⟨w.heap.size, 8, none⟩ = some (.int .i64 c.req.num) := fun w' hb => (HT0.out.below hb HT0.out.lt).cell 8
  have k9 : ∀ w', Below w0.heap.size w0 w' → w'.cell? ⟨w.heap.size, 9, none⟩ = some (.int .i64 c.req.pid) := fun w' hb => (HT0.out.below hb HT0.out.lt).cell 9
  have k10 : ∀ w', Below w0.heap.size w0 w' → w'.cell? ⟨w.heap.size, 10, none⟩ = some (.int .i64 c.req.seq) := fun w' hb => (HT0.out.below hb HT0.out.lt).cell 10
  have k11 : ∀ w', Below w0.heap.size w0 w' → w'.cell? ⟨w.heap.size, 11, none⟩ = some (.slice A c.raw.length a) := fun w' hb => (HT0.out.below hb HT0.out.lt).cell 11
  have k12 : ∀ w', Below w0.heap.size w0 w' → w'.cell? ⟨w.heap.size, 12, none⟩ = some (.int .i64 c.n) := fun w' hb => (HT0.out.below hb HT0.out.lt).cell 12
  have k13 : ∀ w', Below w0.heap.size w0 w' → w'.cell? ⟨w.heap.size, 13, none⟩ = some (.slice P c.picks.length p) := fun w' hb => (HT0.out.below hb HT0.out.lt).cell 13
  have HFI : Hid (fine c = (decide (0 ≤ c.verb) && decide (c.verb ≤ 10) && within c && decide (c.raw.length ≤ 4096) && decide (c.picks.length ≤ 4096))) := rfl
  obtain ⟨fi, hfi⟩ : ∃ b, fine c = b := ⟨_, rfl⟩
  rw [hfi] at HFI
  have HFB := Lib.hid hfi
  clear hfi
  go_cut [32] (fun s32 wx => s32 = .bool (!fi) ∧ Hid (Below w0.heap.size w0 wx))
  case first =>
    have HIo := HI.out.1
    by_cases v0 : c.verb < 0
    · have HF : Hid (fi = false) := Lib.hid (by rw [HFI.out, decide_eq_false (by omega)]; rfl)
      have q0 : w0.cell? ⟨w.heap.size, 0, none⟩ = some (.int .i64 c.verb) := k0 w0 (Below.refl _ _)
      clear k0 k1 k2 k3 k4 k5 k6 k7 k8 k9 k10 k11 k12 k13
      first | go_region_with fail | fail
      all_goals
        go_wp2_with fail
        go_meet
        exact ⟨by rw [HF.out]; rfl, (Below.refl _ _).drew⟩
    by_cases v1 : 11 ≤ c.verb
    · have HF : Hid (fi = false) := Lib.hid (by rw [HFI.out, decide_eq_false (fun h : c.verb ≤ 10 => by omega)]; simp)
      have q0 : w0.cell? ⟨w.heap.size, 0, none⟩ = some (.int .i64 c.verb) := k0 w0 (Below.refl _ _)
      have HK0 := Lib.hid k0
      clear k0 k1 k2 k3 k4 k5 k6 k7 k8 k9 k10 k11 k12 k13
      first | go_region_with (first | (go_at_call 21; refine (verbs_any _).mono ?_; rintro e w1 ⟨g1, rfl, -, -, -, hb1⟩; have HK1 : Hid (Below w0.heap.size w0 w1) := ((Below.refl _ _).drew).trans (hb1.mono (Nat.le_refl _)); have q0' := HK0.out w1 HK1.out; clear hb1) | fail) | fail
      all_goals
        go_wp2_with fail
        go_meet
        exact ⟨by rw [HF.out]; rfl, HK1.out⟩
    have HV : Hid (0 ≤ c.verb ∧ c.verb ≤ 10) := ⟨by omega, by omega⟩
    have HF0 : Hid (fi = (within c && decide (c.raw.length ≤ 4096) && decide (c.picks.length ≤ 4096))) := Lib.hid (by rw [HFI.out, decide_eq_true HV.out.1, decide_eq_true HV.out.2]; rfl)
    obtain ⟨wi, hwi⟩ : ∃ b, within c = b := ⟨_, rfl⟩
    have HWI := Lib.hid hwi
    rw [hwi] at HF0
    have q0 : w0.cell? ⟨w.heap.size, 0, none⟩ = some (.int .i64 c.verb) := k0 w0 (Below.refl _ _)
    have HK := Lib.hid (And.intro k0 (And.intro k1 (And.intro k2 (And.intro k3 (And.intro k4 (And.intro k5 (And.intro k6 (And.intro k7 (And.intro k8 (And.intro k9 (And.intro k10 (And.intro k11 (And.intro k12 k13)))))))))))))
    clear k0 k1 k2 k3 k4 k5 k6 k7 k8 k9 k10 k11 k12 k13 hwi
    cases wi with
    | false =>
      have HF : Hid (fi = false) := Lib.hid (by rw [HF0.out]; rfl)
      first | go_region_with (first | (go_at_call 21; refine (verbs_any _).mono ?_; rintro e w1 ⟨g1, rfl, -, -, -, hb1⟩; have HK1 : Hid (Below w0.heap.size w0 w1) := ((Below.refl _ _).drew).trans (hb1.mono (Nat.le_refl _)); have q0' := HK.out.1 w1 HK1.out; have q1' := HK.out.2.1 w1 HK1.out; have q2' := HK.out.2.2.1 w1 HK1.out; have q3' := HK.out.2.2.2.1 w1 HK1.out; have q4' := HK.out.2.2.2.2.1 w1 HK1.out; have q5' := HK.out.2.2.2.2.2.1 w1 HK1.out; have q6' := HK.out.2.2.2.2.2.2.1 w1 HK1.out; have q7' := HK.out.2.2.2.2.2.2.2.1 w1 HK1.out; have q8' := HK.out.2.2.2.2.2.2.2.2.1 w1 HK1.out; have q9' := HK.out.2.2.2.2.2.2.2.2.2.1 w1 HK1.out; have q10' := HK.out.2.2.2.2.2.2.2.2.2.2.1 w1 HK1.out; have q11' := HK.out.2.2.2.2.2.2.2.2.2.2.2.1 w1 HK1.out; have q12' := HK.out.2.2.2.2.2.2.2.2.2.2.2.2.1 w1 HK1.out; have q13' := HK.out.2.2.2.2.2.2.2.2.2.2.2.2.2 w1 HK1.out; clear hb1) | (go_at_call 22; refine (within_any c A a P p _ (use_below HU.out HK1.out) HI.out HV.out).mono ?_; rintro e w2 ⟨rfl, hb2⟩; rw [HWI.out]; have HK2 : Hid (Below w0.heap.size w0 w2) := HK1.out.trans (hb2.mono HK1.out.size); have q3'' := HK.out.2.2.2.1 w2 HK2.out; have q11'' := HK.out.2.2.2.2.2.2.2.2.2.2.2.1 w2 HK2.out; have q13'' := HK.out.2.2.2.2.2.2.2.2.2.2.2.2.2 w2 HK2.out; clear hb2) | fail) | fail
      all_goals
        go_wp2_with fail
        go_meet
        exact ⟨by rw [HF.out]; first | rfl | (refine congrArg Value.bool ?_; have hv' := HV.out; simp; omega), HK2.out⟩
    | true =>
      by_cases r0 : c.raw.length ≤ 4096
      · by_cases r1 : c.picks.length ≤ 4096
        · have HF : Hid (fi = true) := Lib.hid (by rw [HF0.out, decide_eq_true r0, decide_eq_true r1]; rfl)
          first | go_region_with (first | (go_at_call 21; refine (verbs_any _).mono ?_; rintro e w1 ⟨g1, rfl, -, -, -, hb1⟩; have HK1 : Hid (Below w0.heap.size w0 w1) := ((Below.refl _ _).drew).trans (hb1.mono (Nat.le_refl _)); have q0' := HK.out.1 w1 HK1.out; have q1' := HK.out.2.1 w1 HK1.out; have q2' := HK.out.2.2.1 w1 HK1.out; have q3' := HK.out.2.2.2.1 w1 HK1.out; have q4' := HK.out.2.2.2.2.1 w1 HK1.out; have q5' := HK.out.2.2.2.2.2.1 w1 HK1.out; have q6' := HK.out.2.2.2.2.2.2.1 w1 HK1.out; have q7' := HK.out.2.2.2.2.2.2.2.1 w1 HK1.out; have q8' := HK.out.2.2.2.2.2.2.2.2.1 w1 HK1.out; have q9' := HK.out.2.2.2.2.2.2.2.2.2.1 w1 HK1.out; have q10' := HK.out.2.2.2.2.2.2.2.2.2.2.1 w1 HK1.out; have q11' := HK.out.2.2.2.2.2.2.2.2.2.2.2.1 w1 HK1.out; have q12' := HK.out.2.2.2.2.2.2.2.2.2.2.2.2.1 w1 HK1.out; have q13' := HK.out.2.2.2.2.2.2.2.2.2.2.2.2.2 w1 HK1.out; clear hb1) | (go_at_call 22; refine (within_any c A a P p _ (use_below HU.out HK1.out) HI.out HV.out).mono ?_; rintro e w2 ⟨rfl, hb2⟩; rw [HWI.out]; have HK2 : Hid (Below w0.heap.size w0 w2) := HK1.out.trans (hb2.mono HK1.out.size); have q3'' := HK.out.2.2.2.1 w2 HK2.out; have q11'' := HK.out.2.2.2.2.2.2.2.2.2.2.2.1 w2 HK2.out; have q13'' := HK.out.2.2.2.2.2.2.2.2.2.2.2.2.2 w2 HK2.out; clear hb2) | fail) | fail
          all_goals
            go_wp2_with fail
            go_meet
            exact ⟨by rw [HF.out]; first | rfl | (refine congrArg Value.bool ?_; have hv' := HV.out; simp; omega), HK2.out⟩
        · have HF : Hid (fi = false) := Lib.hid (by rw [HF0.out, decide_eq_false r1, Bool.and_false])
          first | go_region_with (first | (go_at_call 21; refine (verbs_any _).mono ?_; rintro e w1 ⟨g1, rfl, -, -, -, hb1⟩; have HK1 : Hid (Below w0.heap.size w0 w1) := ((Below.refl _ _).drew).trans (hb1.mono (Nat.le_refl _)); have q0' := HK.out.1 w1 HK1.out; have q1' := HK.out.2.1 w1 HK1.out; have q2' := HK.out.2.2.1 w1 HK1.out; have q3' := HK.out.2.2.2.1 w1 HK1.out; have q4' := HK.out.2.2.2.2.1 w1 HK1.out; have q5' := HK.out.2.2.2.2.2.1 w1 HK1.out; have q6' := HK.out.2.2.2.2.2.2.1 w1 HK1.out; have q7' := HK.out.2.2.2.2.2.2.2.1 w1 HK1.out; have q8' := HK.out.2.2.2.2.2.2.2.2.1 w1 HK1.out; have q9' := HK.out.2.2.2.2.2.2.2.2.2.1 w1 HK1.out; have q10' := HK.out.2.2.2.2.2.2.2.2.2.2.1 w1 HK1.out; have q11' := HK.out.2.2.2.2.2.2.2.2.2.2.2.1 w1 HK1.out; have q12' := HK.out.2.2.2.2.2.2.2.2.2.2.2.2.1 w1 HK1.out; have q13' := HK.out.2.2.2.2.2.2.2.2.2.2.2.2.2 w1 HK1.out; clear hb1) | (go_at_call 22; refine (within_any c A a P p _ (use_below HU.out HK1.out) HI.out HV.out).mono ?_; rintro e w2 ⟨rfl, hb2⟩; rw [HWI.out]; have HK2 : Hid (Below w0.heap.size w0 w2) := HK1.out.trans (hb2.mono HK1.out.size); have q3'' := HK.out.2.2.2.1 w2 HK2.out; have q11'' := HK.out.2.2.2.2.2.2.2.2.2.2.2.1 w2 HK2.out; have q13'' := HK.out.2.2.2.2.2.2.2.2.2.2.2.2.2 w2 HK2.out; clear hb2) | fail) | fail
          all_goals
            go_wp2_with fail
            go_meet
            exact ⟨by rw [HF.out]; first | rfl | (refine congrArg Value.bool ?_; have hv' := HV.out; simp; omega), HK2.out⟩
      · have HF : Hid (fi = false) := Lib.hid (by rw [HF0.out, decide_eq_false r0]; rfl)
        first | go_region_with (first | (go_at_call 21; refine (verbs_any _).mono ?_; rintro e w1 ⟨g1, rfl, -, -, -, hb1⟩; have HK1 : Hid (Below w0.heap.size w0 w1) := ((Below.refl _ _).drew).trans (hb1.mono (Nat.le_refl _)); have q0' := HK.out.1 w1 HK1.out; have q1' := HK.out.2.1 w1 HK1.out; have q2' := HK.out.2.2.1 w1 HK1.out; have q3' := HK.out.2.2.2.1 w1 HK1.out; have q4' := HK.out.2.2.2.2.1 w1 HK1.out; have q5' := HK.out.2.2.2.2.2.1 w1 HK1.out; have q6' := HK.out.2.2.2.2.2.2.1 w1 HK1.out; have q7' := HK.out.2.2.2.2.2.2.2.1 w1 HK1.out; have q8' := HK.out.2.2.2.2.2.2.2.2.1 w1 HK1.out; have q9' := HK.out.2.2.2.2.2.2.2.2.2.1 w1 HK1.out; have q10' := HK.out.2.2.2.2.2.2.2.2.2.2.1 w1 HK1.out; have q11' := HK.out.2.2.2.2.2.2.2.2.2.2.2.1 w1 HK1.out; have q12' := HK.out.2.2.2.2.2.2.2.2.2.2.2.2.1 w1 HK1.out; have q13' := HK.out.2.2.2.2.2.2.2.2.2.2.2.2.2 w1 HK1.out; clear hb1) | (go_at_call 22; refine (within_any c A a P p _ (use_below HU.out HK1.out) HI.out HV.out).mono ?_; rintro e w2 ⟨rfl, hb2⟩; rw [HWI.out]; have HK2 : Hid (Below w0.heap.size w0 w2) := HK1.out.trans (hb2.mono HK1.out.size); have q3'' := HK.out.2.2.2.1 w2 HK2.out; have q11'' := HK.out.2.2.2.2.2.2.2.2.2.2.2.1 w2 HK2.out; have q13'' := HK.out.2.2.2.2.2.2.2.2.2.2.2.2.2 w2 HK2.out; clear hb2) | fail) | fail
        all_goals
          go_wp2_with fail
          go_meet
          exact ⟨by rw [HF.out]; first | rfl | (refine congrArg Value.bool ?_; have hv' := HV.out; simp; omega), HK2.out⟩
  case rest =>
    obtain ⟨rfl, HBc⟩ := hcut
    cases fi with
    | false =>
      have HF : Hid (prV none = res) := Lib.hid (by rw [← HRES.out, print_no HFB.out])
      clear k0 k1 k2 k3 k4 k5 k6 k7 k8 k9 k10 k11 k12 k13
      go_wp2_with fail
      go_ret2
      exact ⟨congrArg Ending.returned HF.out, HB0.out.trans (HBc.out.mono HB0.out.size)⟩
    | true =>
      obtain ⟨hv, hwi, -, -⟩ := fine_parts HFB.out
      have hop : c.verb = 2 → 1 ≤ c.req.op ∧ c.req.op ≤ 15 := fun h => by
        rw [within_eq, if_pos h] at hwi
        simp only [okReq, Bool.and_eq_true, decide_eq_true_eq] at hwi
        exact ⟨hwi.2.1.1.1.1.1.1.1.1.1.1.1.1.1.1.1.1.1, hwi.2.1.1.1.1.1.1.1.1.1.1.1.1.1.1.1.1.2⟩
      obtain ⟨vn, hvn⟩ : ∃ n : Nat, c.verb = (n : Int) := ⟨c.verb.toNat, by omega⟩
      have hv1 : vn < 11 := by omega
      have kv : ∀ w', Below w0.heap.size w0 w' → w'.cell? ⟨w.heap.size, 0, none⟩ = some (.int .i64 vn) := fun w' hb => by rw [← hvn]; exact k0 w' hb
      have HV := Lib.hid hv
      have HOP := Lib.hid hop
      have HVN := Lib.hid hvn
      have HK := Lib.hid (And.intro k0 (And.intro k1 (And.intro k2 (And.intro k3 (And.intro k4 (And.intro k5 (And.intro k6 (And.intro k7 (And.intro k8 (And.intro k9 (And.intro k10 (And.intro k11 (And.intro k12 k13)))))))))))))
      clear k0 k1 k2 k3 k4 k5 k6 k7 k8 k9 k10 k11 k12 k13 hv hop hwi HFI
      obtain ⟨wd, hwd⟩ : ∃ x, verbWords.getD vn [] = x := ⟨_, rfl⟩
      obtain ⟨fw, hfw⟩ : ∃ x, wrF vn = x := ⟨_, rfl⟩
      obtain ⟨fr, hfr⟩ : ∃ x, rdF vn = x := ⟨_, rfl⟩
      have HVL : Hid (verbL vn = [.string (S wd), .func (.func fw) #[] #[], .func (.func fr) #[] #[]]) := Lib.hid (by unfold verbL; rw [hwd, hfw, hfr])
      have HWD := Lib.hid hwd
      have HFW := Lib.hid hfw
      clear hwd hfw hfr
      have hvi : (vn : Int) < 11 := by omega
      go_upto_region 3 with fail
      go_cut [4] (fun s4 wx => ∃ g4, s4 = .pointer (some ⟨g4, 0, none⟩) ∧ Hid (Below w0.heap.size w0 wx) ∧ Hid (Blk wx g4 54 #[.string (S wd), .func (.func fw) #[] #[], .func (.func fr) #[] #[]]))
      case first =>
        have hbc := HBc.out
        have qv : wc.cell? ⟨w.heap.size, 0, none⟩ = some (.int .i64 vn) := kv wc hbc
        have qva : ∀ o, (wc.drew.alloc o).cell? ⟨w.heap.size, 0, none⟩ = some (.int .i64 vn) := fun o => kv _ (hbc.drew.alloc hbc.size o)
        have qvb : ∀ o, (wc.alloc o).cell? ⟨w.heap.size, 0, none⟩ = some (.int .i64 vn) := fun o => kv _ (hbc.alloc hbc.size o)
        have KV := Lib.hid kv
        clear kv
        first
          | go_region_with
              (first
                | (go_at_call 21; refine (verbs_any _).mono ?_; rintro e w1 ⟨g1, rfl, -, hg1, hcl, hb1⟩; have HK1 : Below w0.heap.size w0 w1 := (by first | exact hbc.drew.trans (hb1.mono hbc.size) | exact (hbc.drew.alloc hbc.size _).trans (hb1.mono (le_alloc _ hbc.size)) | fail); have qv1 := KV.out w1 HK1; have hc0 := hcl vn hv1; rw [HVL.out] at hc0; have r0 : w1.cell? ⟨g1, vn * 3, none⟩ = some (.string (S wd)) := hc0 0 _ rfl; have r1 : w1.cell? ⟨g1, vn * 3 + 1, none⟩ = some (.func (.func fw) #[] #[]) := hc0 1 _ rfl; have r2 : w1.cell? ⟨g1, vn * 3 + 2, none⟩ = some (.func (.func fr) #[] #[]) := hc0 2 _ rfl; (try (have zb : Blk w1 wc.heap.size 54 #[.string ⟨#[]⟩, .nilFunc, .nilFunc] := (Blk.new wc.drew 54 #[.string ⟨#[]⟩, .nilFunc, .nilFunc]).below hb1 (by simp); have z0 := zb.cell 0; have z1 := zb.cell 1; have z2 := zb.cell 2; have y0 := zb.frozen 0; have y1 := zb.frozen 1; have y2 := zb.frozen 2)); have t0 := cell_al r0; have t1 := cell_al r1; have t2 := cell_al r2; have tv := cell_al qv1; clear hcl hc0)
                | fail)
          | fail
        all_goals
          go_wp2_with fail
          go_meet
          first
            | exact ⟨_, rfl, below_set3 HK1 _ hbc.size _ _ _, ((zb.set_ 0 _).set_ 1 _).set_ 2 _⟩
            | exact ⟨_, rfl, HK1.alloc HK1.size _, Blk.new w1 _ _⟩
            | fail
      case rest =>
        obtain ⟨g4, rfl, HBd, HX4⟩ := hcut
        obtain ⟨ll, hll⟩ : ∃ x, wd :: writeV c = x := ⟨_, rfl⟩
        obtain ⟨res', hres'⟩ : ∃ x, joinB ll = x := ⟨_, rfl⟩
        have HLE : Hid (lineL c = res') := Lib.hid (by rw [← hres', ← hll]; unfold lineL; rw [← HWD.out, HVN.out]; rfl)
        have HRL := Lib.hid hres'
        have HRLen : Hid ((joinB ll).length ≤ 140737488355328) := Lib.hid (by rw [hres', ← HLE.out]; exact line_len c HI.out)
        have hnw : (writeV c).length ≤ 1048584 := (write_len c HI.out).2
        have HLN : Hid (ll.length = 1 + (writeV c).length) := Lib.hid (by rw [← hll, List.length_cons, Nat.add_comm])
        have HLV : Hid (strV ll = strV [wd] ++ strV (writeV c)) := Lib.hid (by rw [← hll, ← strV_append]; rfl)
        clear hres' hll hvn kv hv1 hvi HBc HVL
        have HUP : Hid (∀ w', Below wc.heap.size wc w' → Below w0.heap.size w0 w') := Lib.hid fun w' hb => HBd.out.trans (hb.mono HBd.out.size)
        have k0 : ∀ w', Below wc.heap.size wc w' → w'.cell? ⟨w.heap.size, 0, none⟩ = some (.int .i64 c.verb) := fun w' hb => HK.out.1 w' (HUP.out w' hb)
        have k1 : ∀ w', Below wc.heap.size wc w' → w'.cell? ⟨w.heap.size, 1, none⟩ = some (.int .i64 c.conn) := fun w' hb => HK.out.2.1 w' (HUP.out w' hb)
        have k2 : ∀ w', Below wc.heap.size wc w' → w'.cell? ⟨w.heap.size, 2, none⟩ = some (.int .u32 c.req.id) := fun w' hb => HK.out.2.2.1 w' (HUP.out w' hb)
        have k3 : ∀ w', Below wc.heap.size wc w' → w'.cell? ⟨w.heap.size, 3, none⟩ = some (.int .i64 c.req.op) := fun w' hb => HK.out.2.2.2.1 w' (HUP.out w' hb)
        have k4 : ∀ w', Below wc.heap.size wc w' → w'.cell? ⟨w.heap.size, 4, none⟩ = some (.string (S c.req.topic)) := fun w' hb => HK.out.2.2.2.2.1 w' (HUP.out w' hb)
        have k5 : ∀ w', Below wc.heap.size wc w' → w'.cell? ⟨w.heap.size, 5, none⟩ = some (.string (S c.req.key)) := fun w' hb => HK.out.2.2.2.2.2.1 w' (HUP.out w' hb)
        have k6 : ∀ w', Below wc.heap.size wc w' → w'.cell? ⟨w.heap.size, 6, none⟩ = some (.string (S c.req.value)) := fun w' hb => HK.out.2.2.2.2.2.2.1 w' (HUP.out w' hb)
        have k7 : ∀ w', Below wc.heap.size wc w' → w'.cell? ⟨w.heap.size, 7, none⟩ = some (.int .i64 c.req.off) := fun w' hb => HK.out.2.2.2.2.2.2.2.1 w' (HUP.out w' hb)
        have k8 : ∀ w', Below wc.heap.size wc w' → w'.cell? ⟨w.heap.size, 8, none⟩ = some (.int .i64 c.req.num) := fun w' hb => HK.out.2.2.2.2.2.2.2.2.1 w' (HUP.out w' hb)
        have k9 : ∀ w', Below wc.heap.size wc w' → w'.cell? ⟨w.heap.size, 9, none⟩ = some (.int .i64 c.req.pid) := fun w' hb => HK.out.2.2.2.2.2.2.2.2.2.1 w' (HUP.out w' hb)
        have k10 : ∀ w', Below wc.heap.size wc w' → w'.cell? ⟨w.heap.size, 10, none⟩ = some (.int .i64 c.req.seq) := fun w' hb => HK.out.2.2.2.2.2.2.2.2.2.2.1 w' (HUP.out w' hb)
        have k11 : ∀ w', Below wc.heap.size wc w' → w'.cell? ⟨w.heap.size, 11, none⟩ = some (.slice A c.raw.length a) := fun w' hb => HK.out.2.2.2.2.2.2.2.2.2.2.2.1 w' (HUP.out w' hb)
        have k12 : ∀ w', Below wc.heap.size wc w' → w'.cell? ⟨w.heap.size, 12, none⟩ = some (.int .i64 c.n) := fun w' hb => HK.out.2.2.2.2.2.2.2.2.2.2.2.2.1 w' (HUP.out w' hb)
        have k13 : ∀ w', Below wc.heap.size wc w' → w'.cell? ⟨w.heap.size, 13, none⟩ = some (.slice P c.picks.length p) := fun w' hb => HK.out.2.2.2.2.2.2.2.2.2.2.2.2.2 w' (HUP.out w' hb)
        have x0 : ∀ w', Below wc.heap.size wc w' → w'.cell? ⟨g4, 0, none⟩ = some (.string (S wd)) := fun w' hb => (HX4.out.below hb HX4.out.lt).cell 0
        have x1 : ∀ w', Below wc.heap.size wc w' → w'.cell? ⟨g4, 1, none⟩ = some (.func (.func fw) #[] #[]) := fun w' hb => (HX4.out.below hb HX4.out.lt).cell 1
        have HWC : Hid (∀ w', Below wc.heap.size wc w' → Calls Tryz.prog fw #[.agg #[.int .i64 c.verb, .int .i64 c.conn, .int .u32 c.req.id, .int .i64 c.req.op, .string (S c.req.topic), .string (S c.req.key), .string (S c.req.value), .int .i64 c.req.off, .int .i64 c.req.num, .int .i64 c.req.pid, .int .i64 c.req.seq, .slice A c.raw.length a, .int .i64 c.n, .slice P c.picks.length p]] w' (WrPost w' (writeV c))) := Lib.hid fun w' hb => by
          have h := write_any c A a P p w' (tab_below HTB.out (HUP.out w' hb)) HI.out HV.out HOP.out (HR.out.up (HUP.out w' hb)) (HP.out.up (HUP.out w' hb))
          rw [HVN.out, Int.toNat_natCast, HFW.out] at h
          exact h
        have hcf : ∀ args w, (callFunc fw args).run Tryz.prog w = .ok (.enter fw args) w := fun args w => by rw [← HFW.out]; exact wr_enter vn args w
        go_upto_region 4 with fail
        go_cut [5] (fun s5 wx => s5 = .string (S res') ∧ Hid (Below w0.heap.size w0 wx))
        case first =>
          first
            | go_region_held3 (fun w' => Below wc.heap.size wc w') (first | assumption | exact (Below.refl _ _).drew | exact (Below.refl _ _).drew.alloc (Nat.le_refl _) _ | exact ((Below.refl _ _).alloc (Nat.le_refl _) _).drew | exact HK4.alloc HK4.size _ | fail)
                (first
                  | ((with_reducible refine (HWC.out _ (by assumption)).mono ?_); rintro e w4 ⟨v1, rfl, ho1, hb4⟩; have HK4 : Below wc.heap.size wc w4 := Below.trans (by assumption) (hb4.mono (Below.size (by assumption))); have HO1 := Lib.hid ho1; (try (have hbu := own_keep (w := (wc.alloc (.cells #[.string (S wd)] 9)).drew) (own_built wc wc.heap.size 9 #[.string (S wd)] (strV [wd]) 1 (Nat.le_refl _) rfl rfl (by decide)) hb4; have HBU := Lib.hid hbu; clear hbu)); clear ho1 hb4)
                  | (refine step_append_rows rfl (.tmp 40) (.tmp 44) 43 rfl wc.heap.size 9 i0 _ 1 16 Tryz.underlying43 hi0 hz0 hz1 hz2 rfl (by decide) wc.heap.size 1 1 (strV [wd]) rfl HBU.out v1 _ _ (strV (writeV c)) rfl HO1.out (strV_one _) (le_maxLen (by omega)) (by omega) HK4.size ?_; intro v6 w6 hown6 hg6; rw [← HLN.out, ← HLV.out] at hown6; have HK6 : Below wc.heap.size wc w6 := HK4.grown hg6 HK4.size (fun k e => by cases e; exact Nat.le_refl _); obtain ⟨g6, cap6, rfl, -, hg6', hcap6, hcl6⟩ := own_read hown6 (by rw [HLN.out]; omega); have HC6 := Lib.hid hcl6; clear hown6 hg6 hcl6)
                  | (refine step_append_rows rfl (.tmp 40) (.tmp 44) 43 rfl wc.heap.size 9 i0 _ 1 16 Tryz.underlying43 hi0 hz0 hz1 hz2 rfl (by decide) w4.heap.size 1 1 (strV [wd]) rfl (own_built w4 wc.heap.size _ _ _ _ HK4.size rfl rfl (by decide)) v1 _ _ (strV (writeV c)) rfl (HO1.out.alloc _) (strV_one _) (le_maxLen (by omega)) (by omega) (le_alloc _ HK4.size) ?_; intro v6 w6 hown6 hg6; rw [← HLN.out, ← HLV.out] at hown6; have HK6 : Below wc.heap.size wc w6 := (HK4.alloc HK4.size _).grown hg6 (le_alloc _ HK4.size) (fun k e => by cases e; exact HK4.size); obtain ⟨g6, cap6, rfl, -, hg6', hcap6, hcl6⟩ := own_read hown6 (by rw [HLN.out]; omega); have HC6 := Lib.hid hcl6; clear hown6 hg6 hcl6)
                  | (go_at_call 23; refine (joinS ll g6 cap6 _ HC6.out hg6' hcap6 (by rw [HLN.out]; omega) HRLen.out).mono ?_; rintro e w7 ⟨rfl, hb7⟩; rw [HRL.out]; have HK7 : Below wc.heap.size wc w7 := HK6.trans (hb7.mono HK6.size); clear hb7)
                  | fail)
            | fail
          all_goals
            go_wp2_with fail
            go_meet
            exact ⟨rfl, HUP.out _ HK7⟩
        case rest =>
          obtain ⟨rfl, HBe⟩ := hcut
          clear k0 k1 k2 k3 k4 k5 k6 k7 k8 k9 k10 k11 k12 k13 x0 x1 hnw hcf
          have hsz : (S res').size = res'.length := S_size _
          by_cases h0 : res'.length ≤ 4096
          · have HF : Hid (prV (some res') = res) := Lib.hid (by rw [← HRES.out, print_yes HFB.out (by rw [HLE.out]; exact h0), HLE.out])
            go_wp2_with fail
            go_ret2
            exact ⟨congrArg Ending.returned HF.out, HB0.out.trans (HBe.out.mono HB0.out.size)⟩
          · have HF : Hid (prV none = res) := Lib.hid (by rw [← HRES.out, print_long (by rw [HLE.out]; exact h0)])
            go_wp2_with fail
            go_ret2
            exact ⟨congrArg Ending.returned HF.out, HB0.out.trans (HBe.out.mono HB0.out.size)⟩
end Go.Proofs.YtepalbldleegiaaGreatDoor.sh
