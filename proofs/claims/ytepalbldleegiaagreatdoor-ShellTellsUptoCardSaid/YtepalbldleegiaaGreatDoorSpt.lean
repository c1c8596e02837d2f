/-
  The law's comparison of responses, and the law ShellTells: walked.
  Conditions: those of the row: numbers as their types have them, lengths of at most a megabyte; the tables are as they were laid.
-/
import Derived.Test.YtepalbldleegiaaGreatDoorSpr
import Derived.Test.YtepalbldleegiaaGreatDoorSwm
import Derived.Test.YtepalbldleegiaaGreatDoorSwn
namespace Go.Proofs.YtepalbldleegiaaGreatDoor.sh
open Go.RowKit
open Go.Lib (itoa decDigits byteCells atoiAll)

theorem at_q {P : Program} {ops : Array Oper} {C : World → Prop} {Q : Act → Prop} {rest : List Oper} {a : Act} (o : Oper) (h : wpQuiet P ops C Q (o :: rest) a) : wpQuiet P ops C Q (o :: rest) a := h
theorem visible_big (l : Bs) (hl : l.length ≤ 140737488355328) (hv : vis l) (w : World) : Calls Tryz.prog 17 #[.string (S l)] w fun e w' => e = .returned (.bool true) ∧ w' = w := by
  have hsz : (S l).size = l.length := S_size _
  have HV := Lib.hid hv
  clear hv
  go_enter Tryz.func17, Tryz.ntmps17
  go_wp2_with fail
  go_loopw [3] (fun i wr => ∃ j : Nat, j ≤ l.length ∧ i = .int .i64 (j : Int) ∧ wr = w) (fun i _ => l.length - (intOf i).toNat)
  case atStart => exact ⟨0, Nat.zero_le _, rfl, rfl⟩
  case round =>
    obtain ⟨j, hj, rfl, rfl⟩ := hrel
    by_cases hlt : j < l.length
    · have hix := S_idx l j hlt
      have hvc := HV.out l[j] (List.getElem_mem hlt)
      obtain ⟨c, hc⟩ : ∃ c, l[j] = c := ⟨_, rfl⟩
      rw [hc] at hix hvc
      have h1 : ¬ (c.toNat : Int) < 32 := by have := UInt8.le_iff_toNat_le.1 hvc.1; have e : (32 : UInt8).toNat = 32 := rfl; omega
      have h2 : ¬ 126 < (c.toNat : Int) := by have := UInt8.le_iff_toNat_le.1 hvc.2; have e : (126 : UInt8).toNat = 126 := rfl; omega
      clear hc hvc
      go_wp2_with fail
      go_roundw
      case rel => exact ⟨j + 1, by omega, by go_num, trivial⟩
      case measure => simp [intOf]; omega
    · obtain rfl : j = l.length := by omega
      go_wp2_with fail
      go_ret
      exact ⟨rfl, rfl⟩
theorem names_up {w w' : World} {D : Option Addr} {l : List Bs} (h : NamesAt w w.heap.size D l) (hb : Below w.heap.size w w') : NamesAt w' w'.heap.size D l := fun hn => by
  obtain ⟨b, off, e, hlt, hc⟩ := h hn
  exact ⟨b, off, e, Nat.lt_of_lt_of_le hlt hb.size, fun i x hx => (hb.cell (p := ⟨b, off + i, none⟩) hlt).trans (hc i x hx)⟩
theorem recs_up {w w' : World} {D : Option Addr} {l : List Rec} (h : RecsAt w w.heap.size D l) (hb : Below w.heap.size w w') : RecsAt w' w'.heap.size D l := fun hn => by
  obtain ⟨b, off, e, hlt, hc⟩ := h hn
  exact ⟨b, off, e, Nat.lt_of_lt_of_le hlt hb.size, fun i x hx j v hv => (hb.cell (p := ⟨b, off + i * 7 + j, none⟩) hlt).trans (hc i x hx j v hv)⟩
theorem rsp_ext {r r' : Rsp Rec} (h0 : r.id = r'.id) (h1 : r.op = r'.op) (h2 : r.code = r'.code) (h3 : r.off = r'.off) (h4 : r.num = r'.num) (h5 : r.more = r'.more) (h6 : r.names = r'.names) (h7 : r.recs = r'.recs) : r = r' := by
  cases r
  cases r'
  simp only at h0 h1 h2 h3 h4 h5 h6 h7
  subst h0 h1 h2 h3 h4 h5 h6 h7
  rfl
theorem rec_ext {r r' : Rec} (h0 : r.kind = r'.kind) (h1 : r.off = r'.off) (h2 : r.time = r'.time) (h3 : r.pid = r'.pid) (h4 : r.seq = r'.seq) (h5 : r.key = r'.key) (h6 : r.val = r'.val) : r = r' := by
  cases r
  cases r'
  simp only at h0 h1 h2 h3 h4 h5 h6
  subst h0 h1 h2 h3 h4 h5 h6
  rfl
theorem take_get {α : Type} {l l' : List α} {j : Nat} (h : l.take j = l'.take j) (h1 : j < l.length) (h2 : j < l'.length) (e : l[j] = l'[j]) : l.take (j + 1) = l'.take (j + 1) := by
  rw [List.take_succ_eq_append_getElem h1, List.take_succ_eq_append_getElem h2, h, e]

set_option maxRecDepth 100000 in
set_option maxHeartbeats 8000000 in
theorem equal_any (r r' : Rsp Rec) (A A' D D' : Option Addr) (c c' d d' : Nat) (b : Bool) (hbt : r = r' → b = true) (hbf : r ≠ r' → b = false) (w : World) (hnm : NamesAt w w.heap.size D r.names) (hrc : RecsAt w w.heap.size A r.recs) (hnm' : NamesAt w w.heap.size D' r'.names) (hrc' : RecsAt w w.heap.size A' r'.recs) (hl1 : r.names.length ≤ 1048576) (hl2 : r.recs.length ≤ 1048576) :
    Calls Tryz.prog 20 #[rspV r A c D d, rspV r' A' c' D' d'] w fun e w' => e = .returned (.bool b) ∧ Below w.heap.size w w' := by
  have hT1 := (Blk.new w 45 #[.int .u32 r.id, .int .i64 r.op, .int .i64 r.code, .int .i64 r.off, .int .i64 r.num, .bool r.more, .slice A r.recs.length c, .slice D r.names.length d]).alloc (.cells #[.int .u32 r'.id, .int .i64 r'.op, .int .i64 r'.code, .int .i64 r'.off, .int .i64 r'.num, .bool r'.more, .slice A' r'.recs.length c', .slice D' r'.names.length d'] 45)
  have hT2 := Blk.new (w.alloc (.cells #[.int .u32 r.id, .int .i64 r.op, .int .i64 r.code, .int .i64 r.off, .int .i64 r.num, .bool r.more, .slice A r.recs.length c, .slice D r.names.length d] 45)) 45 #[.int .u32 r'.id, .int .i64 r'.op, .int .i64 r'.code, .int .i64 r'.off, .int .i64 r'.num, .bool r'.more, .slice A' r'.recs.length c', .slice D' r'.names.length d']
  rw [World.size_alloc] at hT2
  have hb1 : Below w.heap.size w (w.alloc (.cells #[.int .u32 r.id, .int .i64 r.op, .int .i64 r.code, .int .i64 r.off, .int .i64 r.num, .bool r.more, .slice A r.recs.length c, .slice D r.names.length d] 45)) := (Below.refl _ _).alloc (Nat.le_refl _) _
  have hb0 := hb1.alloc hb1.size (.cells #[.int .u32 r'.id, .int .i64 r'.op, .int .i64 r'.code, .int .i64 r'.off, .int .i64 r'.num, .bool r'.more, .slice A' r'.recs.length c', .slice D' r'.names.length d'] 45)
  have HN := Lib.hid (names_up hnm hb0)
  have HN' := Lib.hid (names_up hnm' hb0)
  have HR := Lib.hid (recs_up hrc hb0)
  have HR' := Lib.hid (recs_up hrc' hb0)
  have HBT := Lib.hid hbt
  have HBF := Lib.hid hbf
  clear hnm hnm' hrc hrc' hb1 hbt hbf
  unfold rspV
  go_enter Tryz.func20, Tryz.ntmps20
  go_upto_region 1 with fail
  generalize hw0 : (w.alloc _).alloc _ = w0 at hT1 hT2 hb0 HN HN' HR HR' ⊢
  have HB0 := Lib.hid hb0
  have HT1 := Lib.hid hT1
  have HT2 := Lib.hid hT2
  clear hw0 hb0 hT1 hT2
  have q0 : w0.cell? ⟨w.heap.size, 0, none⟩ = some (.int .u32 r.id) := HT1.out.cell 0
  have t0 : w0.cell? ⟨w.heap.size + 1, 0, none⟩ = some (.int .u32 r'.id) := HT2.out.cell 0
  have q1 : w0.cell? ⟨w.heap.size, 1, none⟩ = some (.int .i64 r.op) := HT1.out.cell 1
  have t1 : w0.cell? ⟨w.heap.size + 1, 1, none⟩ = some (.int .i64 r'.op) := HT2.out.cell 1
  have q2 : w0.cell? ⟨w.heap.size, 2, none⟩ = some (.int .i64 r.code) := HT1.out.cell 2
  have t2 : w0.cell? ⟨w.heap.size + 1, 2, none⟩ = some (.int .i64 r'.code) := HT2.out.cell 2
  have q3 : w0.cell? ⟨w.heap.size, 3, none⟩ = some (.int .i64 r.off) := HT1.out.cell 3
  have t3 : w0.cell? ⟨w.heap.size + 1, 3, none⟩ = some (.int .i64 r'.off) := HT2.out.cell 3
  have q4 : w0.cell? ⟨w.heap.size, 4, none⟩ = some (.int .i64 r.num) := HT1.out.cell 4
  have t4 : w0.cell? ⟨w.heap.size + 1, 4, none⟩ = some (.int .i64 r'.num) := HT2.out.cell 4
  have q5 : w0.cell? ⟨w.heap.size, 5, none⟩ = some (.bool r.more) := HT1.out.cell 5
  have t5 : w0.cell? ⟨w.heap.size + 1, 5, none⟩ = some (.bool r'.more) := HT2.out.cell 5
  have q6 : w0.cell? ⟨w.heap.size, 6, none⟩ = some (.slice A r.recs.length c) := HT1.out.cell 6
  have t6 : w0.cell? ⟨w.heap.size + 1, 6, none⟩ = some (.slice A' r'.recs.length c') := HT2.out.cell 6
  have q7 : w0.cell? ⟨w.heap.size, 7, none⟩ = some (.slice D r.names.length d) := HT1.out.cell 7
  have t7 : w0.cell? ⟨w.heap.size + 1, 7, none⟩ = some (.slice D' r'.names.length d') := HT2.out.cell 7
  by_cases h0 : r.id = r'.id
  rotate_left
  · have HF : Hid (b = false) := HBF.out (fun e => h0 (by rw [e]))
    go_wp2_with fail
    go_ret
    exact ⟨ret_bool HF.out.symm, HB0.out⟩
  rw [← h0] at t0
  have H0 := Lib.hid h0
  clear h0
  by_cases h1 : r.op = r'.op
  rotate_left
  · have HF : Hid (b = false) := HBF.out (fun e => h1 (by rw [e]))
    go_wp2_with fail
    go_ret
    exact ⟨ret_bool HF.out.symm, HB0.out⟩
  rw [← h1] at t1
  have H1 := Lib.hid h1
  clear h1
  by_cases h2 : r.code = r'.code
  rotate_left
  · have HF : Hid (b = false) := HBF.out (fun e => h2 (by rw [e]))
    go_wp2_with fail
    go_ret
    exact ⟨ret_bool HF.out.symm, HB0.out⟩
  rw [← h2] at t2
  have H2 := Lib.hid h2
  clear h2
  by_cases h3 : r.off = r'.off
  rotate_left
  · have HF : Hid (b = false) := HBF.out (fun e => h3 (by rw [e]))
    go_wp2_with fail
    go_ret
    exact ⟨ret_bool HF.out.symm, HB0.out⟩
  rw [← h3] at t3
  have H3 := Lib.hid h3
  clear h3
  by_cases h4 : r.num = r'.num
  rotate_left
  · have HF : Hid (b = false) := HBF.out (fun e => h4 (by rw [e]))
    go_wp2_with fail
    go_ret
    exact ⟨ret_bool HF.out.symm, HB0.out⟩
  rw [← h4] at t4
  have H4 := Lib.hid h4
  clear h4
  obtain ⟨m, hm⟩ : ∃ m, r.more = m := ⟨_, rfl⟩
  obtain ⟨m', hm'⟩ : ∃ m, r'.more = m := ⟨_, rfl⟩
  rw [hm] at q5
  rw [hm'] at t5
  by_cases h5 : m = m'
  rotate_left
  · have HF : Hid (b = false) := HBF.out (fun e => h5 (by rw [← hm, ← hm', e]))
    clear hm hm'
    cases m <;> cases m'
    · exact absurd rfl h5
    · clear h5
      go_wp2_with fail
      go_ret
      exact ⟨ret_bool HF.out.symm, HB0.out⟩
    · clear h5
      go_wp2_with fail
      go_ret
      exact ⟨ret_bool HF.out.symm, HB0.out⟩
    · exact absurd rfl h5
  have H5 : Hid (r.more = r'.more) := Lib.hid (by rw [hm, hm', h5])
  rw [← h5] at t5
  clear hm hm' h5
  obtain ⟨nl, hnl⟩ : ∃ m, r.names.length = m := ⟨_, rfl⟩
  obtain ⟨nl', hnl'⟩ : ∃ m, r'.names.length = m := ⟨_, rfl⟩
  obtain ⟨rl, hrl⟩ : ∃ m, r.recs.length = m := ⟨_, rfl⟩
  obtain ⟨rl', hrl'⟩ : ∃ m, r'.recs.length = m := ⟨_, rfl⟩
  rw [hnl] at q7 hl1
  rw [hnl'] at t7
  rw [hrl] at q6 hl2
  rw [hrl'] at t6
  have HT1' : Hid (∀ W, Below w0.heap.size w0 W → W.cell? ⟨w.heap.size, 7, none⟩ = some (.slice D nl d) ∧ W.cell? ⟨w.heap.size, 6, none⟩ = some (.slice A rl c)) := Lib.hid fun W hb => by
    rw [← hnl, ← hrl]
    exact ⟨(HT1.out.below hb HT1.out.lt).cell 7, (HT1.out.below hb HT1.out.lt).cell 6⟩
  have HT2' : Hid (∀ W, Below w0.heap.size w0 W → W.cell? ⟨w.heap.size + 1, 7, none⟩ = some (.slice D' nl' d') ∧ W.cell? ⟨w.heap.size + 1, 6, none⟩ = some (.slice A' rl' c')) := Lib.hid fun W hb => by
    rw [← hnl', ← hrl']
    exact ⟨(HT2.out.below hb HT2.out.lt).cell 7, (HT2.out.below hb HT2.out.lt).cell 6⟩
  have HNL := Lib.hid hnl
  have HNL' := Lib.hid hnl'
  have HRL := Lib.hid hrl
  have HRL' := Lib.hid hrl'
  clear hnl hnl' hrl hrl' HT1 HT2
  by_cases h6 : nl = nl'
  rotate_left
  · have HF : Hid (b = false) := HBF.out (fun e => h6 (by rw [← HNL.out, ← HNL'.out, e]))
    have hne : ((nl : Int) == (nl' : Int)) = false := by rw [beq_eq_false_iff_ne]; omega
    go_wp2_with fail
    go_ret
    exact ⟨ret_bool HF.out.symm, HB0.out⟩
  subst h6
  by_cases h7 : rl = rl'
  rotate_left
  · have HF : Hid (b = false) := HBF.out (fun e => h7 (by rw [← HRL.out, ← HRL'.out, e]))
    have hne : ((rl : Int) == (rl' : Int)) = false := by rw [beq_eq_false_iff_ne]; omega
    go_wp2_with fail
    go_ret
    exact ⟨ret_bool HF.out.symm, HB0.out⟩
  subst h7
  go_wp2_with fail
  clear q0 t0 q1 t1 q2 t2 q3 t3 q4 t4 q5 t5 q6 t6 q7 t7
  go_loopw [5] (fun i wr => ∃ j : Nat, j ≤ nl ∧ i = .int .i64 (j : Int) ∧ Hid (r.names.take j = r'.names.take j) ∧ Hid (Below w0.heap.size w0 wr)) (fun i _ => nl - (intOf i).toNat)
  case atStart => exact ⟨0, Nat.zero_le _, rfl, Lib.hid (by rw [List.take_zero, List.take_zero]), Below.refl _ _⟩
  case round =>
    obtain ⟨j, hj, rfl, HTK, HBr⟩ := hrel
    obtain ⟨u7, -⟩ := HT1'.out wr HBr.out
    obtain ⟨x7, -⟩ := HT2'.out wr HBr.out
    by_cases hlt : j < nl
    · have hlA : j < r.names.length := by rw [HNL.out]; exact hlt
      have hlB : j < r'.names.length := by rw [HNL'.out]; exact hlt
      obtain ⟨f, off, rfl, hb, hcl⟩ := HN.out (by intro e; rw [e] at hlA; simp at hlA)
      obtain ⟨f', off', rfl, hb', hcl'⟩ := HN'.out (by intro e; rw [e] at hlB; simp at hlB)
      obtain ⟨x, hx⟩ : ∃ x, r.names[j] = x := ⟨_, rfl⟩
      obtain ⟨y, hy⟩ : ∃ x, r'.names[j] = x := ⟨_, rfl⟩
      have k0 := cell_regrown u7
      have k1 := cell_regrown x7
      have k2 := cell_regrown ((HBr.out.cell (p := ⟨f, off + j, none⟩) hb).trans (hcl j x (by rw [← hx]; exact List.getElem?_eq_getElem hlA)))
      have k3 := cell_regrown ((HBr.out.cell (p := ⟨f', off' + j, none⟩) hb').trans (hcl' j y (by rw [← hy]; exact List.getElem?_eq_getElem hlB)))
      clear hcl hcl' hb hb'
      by_cases he : x = y
      · have HTK2 : Hid (r.names.take (j + 1) = r'.names.take (j + 1)) := Lib.hid (take_get HTK.out hlA hlB (by rw [hx, hy, he]))
        rw [← he] at k3
        clear he hx hy hlA hlB
        go_upto_region 6 with fail
        refine wp_region_quiet_below (by kernel_rfl) (by kernel_rfl) ?_
        repeat (first | go_big_quiet_skip | (go_big_quiet_want; go_big_quiet_op; go_big_quiet_on))
        refine wpQuiet_nil ?_
        intro _ hw'
        obtain ⟨⟨dq, osq⟩, hw''⟩ := hw'
        subst hw''
        have HB4 : Hid (Below w0.heap.size w0 (Sort.grow (redrawn wr dq) osq)) := HBr.out.trans ((below_regrown wr dq osq).mono HBr.out.size)
        clear k0 k1 k2 k3 u7 x7
        go_wp2_with fail
        go_roundw
        case rel => exact ⟨j + 1, by omega, by go_num, HTK2, HB4⟩
        case measure => simp [intOf]; omega
      · have HF : Hid (b = false) := HBF.out (fun e => he (by subst e; rw [← hx, ← hy]))
        have hne : ((S x).toList == (S y).toList) = false := by rw [beq_eq_false_iff_ne, S_list, S_list]; exact he
        clear he hx hy hlA hlB
        go_upto_region 6 with fail
        refine wp_region_quiet_below (by kernel_rfl) (by kernel_rfl) ?_
        repeat (first | go_big_quiet_skip | (go_big_quiet_want; go_big_quiet_op; go_big_quiet_on))
        refine wpQuiet_nil ?_
        intro _ hw'
        obtain ⟨⟨dq, osq⟩, hw''⟩ := hw'
        subst hw''
        have HB4 : Hid (Below w.heap.size w (Sort.grow (redrawn wr dq) osq)) := HB0.out.trans ((HBr.out.trans ((below_regrown wr dq osq).mono HBr.out.size)).mono HB0.out.size)
        clear k0 k1 k2 k3 u7 x7
        go_wp2_with fail
        go_ret
        exact ⟨ret_bool HF.out.symm, HB4.out⟩
    · obtain rfl : j = nl := by omega
      have HNE : Hid (r.names = r'.names) := Lib.hid (by
        have := HTK.out
        rwa [List.take_of_length_le (by rw [HNL.out]; exact Nat.le_refl _), List.take_of_length_le (by rw [HNL'.out]; exact Nat.le_refl _)] at this)
      clear x7
      go_wp2_with fail
      clear u7
      obtain ⟨wq, hwq⟩ : ∃ x : World, x = wr := ⟨_, rfl⟩
      rw [← hwq] at HBr
      rw [← hwq]
      go_loopw [6] (fun i wr => ∃ j : Nat, j ≤ rl ∧ i = .int .i64 (j : Int) ∧ Hid (r.recs.take j = r'.recs.take j) ∧ Hid (Below w0.heap.size w0 wr)) (fun i _ => rl - (intOf i).toNat)
      case atStart => exact ⟨0, Nat.zero_le _, rfl, Lib.hid (by rw [List.take_zero, List.take_zero]), HBr⟩
      case round =>
        clear hwq HBr
        obtain ⟨j, hj, rfl, HTK, HBr⟩ := hrel
        obtain ⟨-, u6⟩ := HT1'.out wr HBr.out
        obtain ⟨-, x6⟩ := HT2'.out wr HBr.out
        by_cases hlt : j < rl
        · have hlA : j < r.recs.length := by rw [HRL.out]; exact hlt
          have hlB : j < r'.recs.length := by rw [HRL'.out]; exact hlt
          obtain ⟨f, off, rfl, hb, hcl⟩ := HR.out (by intro e; rw [e] at hlA; simp at hlA)
          obtain ⟨f', off', rfl, hb', hcl'⟩ := HR'.out (by intro e; rw [e] at hlB; simp at hlB)
          obtain ⟨x, hx⟩ : ∃ x, r.recs[j] = x := ⟨_, rfl⟩
          obtain ⟨y, hy⟩ : ∃ x, r'.recs[j] = x := ⟨_, rfl⟩
          have RS : Hid (∀ (i : Nat) (v : Value), (recL x)[i]? = some v → wr.cell? ((⟨f, off + j * 7, none⟩ : Addr).add i) = some v) := Lib.hid (fun i v h => by
            rw [add_flat]
            exact (HBr.out.cell (p := ⟨f, off + j * 7 + i, none⟩) hb).trans (hcl j x (by rw [← hx]; exact List.getElem?_eq_getElem hlA) i v h))
          have RT : Hid (∀ (i : Nat) (v : Value), (recL y)[i]? = some v → wr.cell? ((⟨f', off' + j * 7, none⟩ : Addr).add i) = some v) := Lib.hid (fun i v h => by
            rw [add_flat]
            exact (HBr.out.cell (p := ⟨f', off' + j * 7 + i, none⟩) hb').trans (hcl' j y (by rw [← hy]; exact List.getElem?_eq_getElem hlB) i v h))
          have k0 := cell_regrown u6
          have k1 := cell_regrown x6
          have HXE : Hid (x = y → r.recs.take (j + 1) = r'.recs.take (j + 1)) := Lib.hid fun e => take_get HTK.out hlA hlB (by rw [hx, hy, e])
          have HXN : Hid (x ≠ y → b = false) := Lib.hid fun hn => HBF.out (fun e => hn (by subst e; rw [← hx, ← hy]))
          clear hcl hcl' hb hb' hx hy hlA hlB
          by_cases e0 : x.kind = y.kind
          rotate_left
          · have HF : Hid (b = false) := Lib.hid (HXN.out (fun e => e0 (by rw [e])))
            have hne : (x.kind == y.kind) = false := by rw [beq_eq_false_iff_ne]; exact e0
            clear e0
            go_upto_region 11 with fail
            refine wp_region_quiet_below (by kernel_rfl) (by kernel_rfl) ?_
            repeat (first
              | ((with_reducible refine at_q ⟨_, .load 69 (.tmp 93), _, _, _, _⟩ ?_); refine wpQuiet_load_list rfl 69 (.tmp 93) rfl ⟨f, off + j * 7, none⟩ rfl [.int .i64 x.kind, .int .i64 x.off, .int .i64 x.time, .int .i64 x.pid, .int .i64 x.seq, .string (S x.key), .string (S x.val)] (fun w' hw' i v h => by obtain ⟨p, hp⟩ := hw'; rw [hp]; exact cell_regrown (RS.out i v h) _ _) _ Tryz.underlying69 rfl (by kernel_rfl) ?_; simp only [Act.put, List.setIfInBounds_toArray, List.set_cons_succ, List.set_cons_zero])
              | ((with_reducible refine at_q ⟨_, .load 69 (.tmp 98), _, _, _, _⟩ ?_); refine wpQuiet_load_list rfl 69 (.tmp 98) rfl ⟨f', off' + j * 7, none⟩ rfl [.int .i64 y.kind, .int .i64 y.off, .int .i64 y.time, .int .i64 y.pid, .int .i64 y.seq, .string (S y.key), .string (S y.val)] (fun w' hw' i v h => by obtain ⟨p, hp⟩ := hw'; rw [hp]; exact cell_regrown (RT.out i v (by unfold recL; exact h)) _ _) _ Tryz.underlying69 rfl (by kernel_rfl) ?_; simp only [Act.put, List.setIfInBounds_toArray, List.set_cons_succ, List.set_cons_zero])
              | go_big_quiet_skip
              | (go_big_quiet_want; go_big_quiet_op; go_big_quiet_on))
            refine wpQuiet_nil ?_
            intro _ hw'
            obtain ⟨⟨dq, osq⟩, hw''⟩ := hw'
            subst hw''
            have HB4 : Hid (Below w0.heap.size w0 (Sort.grow (redrawn wr dq) osq)) := HBr.out.trans ((below_regrown wr dq osq).mono HBr.out.size)
            clear k0 k1 u6 x6 RS RT
            go_wp2_with fail
            go_ret
            exact ⟨ret_bool HF.out.symm, HB0.out.trans (HB4.out.mono HB0.out.size)⟩
          have E0 := Lib.hid e0
          clear e0
          by_cases e1 : x.off = y.off
          rotate_left
          · have HF : Hid (b = false) := Lib.hid (HXN.out (fun e => e1 (by rw [e])))
            have hne : (x.off == y.off) = false := by rw [beq_eq_false_iff_ne]; exact e1
            clear e1
            go_upto_region 11 with fail
            refine wp_region_quiet_below (by kernel_rfl) (by kernel_rfl) ?_
            repeat (first
              | ((with_reducible refine at_q ⟨_, .load 69 (.tmp 93), _, _, _, _⟩ ?_); refine wpQuiet_load_list rfl 69 (.tmp 93) rfl ⟨f, off + j * 7, none⟩ rfl [.int .i64 x.kind, .int .i64 x.off, .int .i64 x.time, .int .i64 x.pid, .int .i64 x.seq, .string (S x.key), .string (S x.val)] (fun w' hw' i v h => by obtain ⟨p, hp⟩ := hw'; rw [hp]; exact cell_regrown (RS.out i v h) _ _) _ Tryz.underlying69 rfl (by kernel_rfl) ?_; simp only [Act.put, List.setIfInBounds_toArray, List.set_cons_succ, List.set_cons_zero])
              | ((with_reducible refine at_q ⟨_, .load 69 (.tmp 98), _, _, _, _⟩ ?_); refine wpQuiet_load_list rfl 69 (.tmp 98) rfl ⟨f', off' + j * 7, none⟩ rfl [.int .i64 x.kind, .int .i64 y.off, .int .i64 y.time, .int .i64 y.pid, .int .i64 y.seq, .string (S y.key), .string (S y.val)] (fun w' hw' i v h => by obtain ⟨p, hp⟩ := hw'; rw [hp]; exact cell_regrown (RT.out i v (by unfold recL; rw [← E0.out]; exact h)) _ _) _ Tryz.underlying69 rfl (by kernel_rfl) ?_; simp only [Act.put, List.setIfInBounds_toArray, List.set_cons_succ, List.set_cons_zero])
              | go_big_quiet_skip
              | (go_big_quiet_want; go_big_quiet_op; go_big_quiet_on))
            refine wpQuiet_nil ?_
            intro _ hw'
            obtain ⟨⟨dq, osq⟩, hw''⟩ := hw'
            subst hw''
            have HB4 : Hid (Below w0.heap.size w0 (Sort.grow (redrawn wr dq) osq)) := HBr.out.trans ((below_regrown wr dq osq).mono HBr.out.size)
            clear k0 k1 u6 x6 RS RT
            go_wp2_with fail
            go_ret
            exact ⟨ret_bool HF.out.symm, HB0.out.trans (HB4.out.mono HB0.out.size)⟩
          have E1 := Lib.hid e1
          clear e1
          by_cases e2 : x.time = y.time
          rotate_left
          · have HF : Hid (b = false) := Lib.hid (HXN.out (fun e => e2 (by rw [e])))
            have hne : (x.time == y.time) = false := by rw [beq_eq_false_iff_ne]; exact e2
            clear e2
            go_upto_region 11 with fail
            refine wp_region_quiet_below (by kernel_rfl) (by kernel_rfl) ?_
            repeat (first
              | ((with_reducible refine at_q ⟨_, .load 69 (.tmp 93), _, _, _, _⟩ ?_); refine wpQuiet_load_list rfl 69 (.tmp 93) rfl ⟨f, off + j * 7, none⟩ rfl [.int .i64 x.kind, .int .i64 x.off, .int .i64 x.time, .int .i64 x.pid, .int .i64 x.seq, .string (S x.key), .string (S x.val)] (fun w' hw' i v h => by obtain ⟨p, hp⟩ := hw'; rw [hp]; exact cell_regrown (RS.out i v h) _ _) _ Tryz.underlying69 rfl (by kernel_rfl) ?_; simp only [Act.put, List.setIfInBounds_toArray, List.set_cons_succ, List.set_cons_zero])
              | ((with_reducible refine at_q ⟨_, .load 69 (.tmp 98), _, _, _, _⟩ ?_); refine wpQuiet_load_list rfl 69 (.tmp 98) rfl ⟨f', off' + j * 7, none⟩ rfl [.int .i64 x.kind, .int .i64 x.off, .int .i64 y.time, .int .i64 y.pid, .int .i64 y.seq, .string (S y.key), .string (S y.val)] (fun w' hw' i v h => by obtain ⟨p, hp⟩ := hw'; rw [hp]; exact cell_regrown (RT.out i v (by unfold recL; rw [← E0.out]; rw [← E1.out]; exact h)) _ _) _ Tryz.underlying69 rfl (by kernel_rfl) ?_; simp only [Act.put, List.setIfInBounds_toArray, List.set_cons_succ, List.set_cons_zero])
              | go_big_quiet_skip
              | (go_big_quiet_want; go_big_quiet_op; go_big_quiet_on))
            refine wpQuiet_nil ?_
            intro _ hw'
            obtain ⟨⟨dq, osq⟩, hw''⟩ := hw'
            subst hw''
            have HB4 : Hid (Below w0.heap.size w0 (Sort.grow (redrawn wr dq) osq)) := HBr.out.trans ((below_regrown wr dq osq).mono HBr.out.size)
            clear k0 k1 u6 x6 RS RT
            go_wp2_with fail
            go_ret
            exact ⟨ret_bool HF.out.symm, HB0.out.trans (HB4.out.mono HB0.out.size)⟩
          have E2 := Lib.hid e2
          clear e2
          by_cases e3 : x.pid = y.pid
          rotate_left
          · have HF : Hid (b = false) := Lib.hid (HXN.out (fun e => e3 (by rw [e])))
            have hne : (x.pid == y.pid) = false := by rw [beq_eq_false_iff_ne]; exact e3
            clear e3
            go_upto_region 11 with fail
            refine wp_region_quiet_below (by kernel_rfl) (by kernel_rfl) ?_
            repeat (first
              | ((with_reducible refine at_q ⟨_, .load 69 (.tmp 93), _, _, _, _⟩ ?_); refine wpQuiet_load_list rfl 69 (.tmp 93) rfl ⟨f, off + j * 7, none⟩ rfl [.int .i64 x.kind, .int .i64 x.off, .int .i64 x.time, .int .i64 x.pid, .int .i64 x.seq, .string (S x.key), .string (S x.val)] (fun w' hw' i v h => by obtain ⟨p, hp⟩ := hw'; rw [hp]; exact cell_regrown (RS.out i v h) _ _) _ Tryz.underlying69 rfl (by kernel_rfl) ?_; simp only [Act.put, List.setIfInBounds_toArray, List.set_cons_succ, List.set_cons_zero])
              | ((with_reducible refine at_q ⟨_, .load 69 (.tmp 98), _, _, _, _⟩ ?_); refine wpQuiet_load_list rfl 69 (.tmp 98) rfl ⟨f', off' + j * 7, none⟩ rfl [.int .i64 x.kind, .int .i64 x.off, .int .i64 x.time, .int .i64 y.pid, .int .i64 y.seq, .string (S y.key), .string (S y.val)] (fun w' hw' i v h => by obtain ⟨p, hp⟩ := hw'; rw [hp]; exact cell_regrown (RT.out i v (by unfold recL; rw [← E0.out]; rw [← E1.out]; rw [← E2.out]; exact h)) _ _) _ Tryz.underlying69 rfl (by kernel_rfl) ?_; simp only [Act.put, List.setIfInBounds_toArray, List.set_cons_succ, List.set_cons_zero])
              | go_big_quiet_skip
              | (go_big_quiet_want; go_big_quiet_op; go_big_quiet_on))
            refine wpQuiet_nil ?_
            intro _ hw'
            obtain ⟨⟨dq, osq⟩, hw''⟩ := hw'
            subst hw''
            have HB4 : Hid (Below w0.heap.size w0 (Sort.grow (redrawn wr dq) osq)) := HBr.out.trans ((below_regrown wr dq osq).mono HBr.out.size)
            clear k0 k1 u6 x6 RS RT
            go_wp2_with fail
            go_ret
            exact ⟨ret_bool HF.out.symm, HB0.out.trans (HB4.out.mono HB0.out.size)⟩
          have E3 := Lib.hid e3
          clear e3
          by_cases e4 : x.seq = y.seq
          rotate_left
          · have HF : Hid (b = false) := Lib.hid (HXN.out (fun e => e4 (by rw [e])))
            have hne : (x.seq == y.seq) = false := by rw [beq_eq_false_iff_ne]; exact e4
            clear e4
            go_upto_region 11 with fail
            refine wp_region_quiet_below (by kernel_rfl) (by kernel_rfl) ?_
            repeat (first
              | ((with_reducible refine at_q ⟨_, .load 69 (.tmp 93), _, _, _, _⟩ ?_); refine wpQuiet_load_list rfl 69 (.tmp 93) rfl ⟨f, off + j * 7, none⟩ rfl [.int .i64 x.kind, .int .i64 x.off, .int .i64 x.time, .int .i64 x.pid, .int .i64 x.seq, .string (S x.key), .string (S x.val)] (fun w' hw' i v h => by obtain ⟨p, hp⟩ := hw'; rw [hp]; exact cell_regrown (RS.out i v h) _ _) _ Tryz.underlying69 rfl (by kernel_rfl) ?_; simp only [Act.put, List.setIfInBounds_toArray, List.set_cons_succ, List.set_cons_zero])
              | ((with_reducible refine at_q ⟨_, .load 69 (.tmp 98), _, _, _, _⟩ ?_); refine wpQuiet_load_list rfl 69 (.tmp 98) rfl ⟨f', off' + j * 7, none⟩ rfl [.int .i64 x.kind, .int .i64 x.off, .int .i64 x.time, .int .i64 x.pid, .int .i64 y.seq, .string (S y.key), .string (S y.val)] (fun w' hw' i v h => by obtain ⟨p, hp⟩ := hw'; rw [hp]; exact cell_regrown (RT.out i v (by unfold recL; rw [← E0.out]; rw [← E1.out]; rw [← E2.out]; rw [← E3.out]; exact h)) _ _) _ Tryz.underlying69 rfl (by kernel_rfl) ?_; simp only [Act.put, List.setIfInBounds_toArray, List.set_cons_succ, List.set_cons_zero])
              | go_big_quiet_skip
              | (go_big_quiet_want; go_big_quiet_op; go_big_quiet_on))
            refine wpQuiet_nil ?_
            intro _ hw'
            obtain ⟨⟨dq, osq⟩, hw''⟩ := hw'
            subst hw''
            have HB4 : Hid (Below w0.heap.size w0 (Sort.grow (redrawn wr dq) osq)) := HBr.out.trans ((below_regrown wr dq osq).mono HBr.out.size)
            clear k0 k1 u6 x6 RS RT
            go_wp2_with fail
            go_ret
            exact ⟨ret_bool HF.out.symm, HB0.out.trans (HB4.out.mono HB0.out.size)⟩
          have E4 := Lib.hid e4
          clear e4
          by_cases e5 : x.key = y.key
          rotate_left
          · have HF : Hid (b = false) := Lib.hid (HXN.out (fun e => e5 (by rw [e])))
            have hne : ((S x.key).toList == (S y.key).toList) = false := by rw [beq_eq_false_iff_ne, S_list, S_list]; exact e5
            clear e5
            go_upto_region 11 with fail
            refine wp_region_quiet_below (by kernel_rfl) (by kernel_rfl) ?_
            repeat (first
              | ((with_reducible refine at_q ⟨_, .load 69 (.tmp 93), _, _, _, _⟩ ?_); refine wpQuiet_load_list rfl 69 (.tmp 93) rfl ⟨f, off + j * 7, none⟩ rfl [.int .i64 x.kind, .int .i64 x.off, .int .i64 x.time, .int .i64 x.pid, .int .i64 x.seq, .string (S x.key), .string (S x.val)] (fun w' hw' i v h => by obtain ⟨p, hp⟩ := hw'; rw [hp]; exact cell_regrown (RS.out i v h) _ _) _ Tryz.underlying69 rfl (by kernel_rfl) ?_; simp only [Act.put, List.setIfInBounds_toArray, List.set_cons_succ, List.set_cons_zero])
              | ((with_reducible refine at_q ⟨_, .load 69 (.tmp 98), _, _, _, _⟩ ?_); refine wpQuiet_load_list rfl 69 (.tmp 98) rfl ⟨f', off' + j * 7, none⟩ rfl [.int .i64 x.kind, .int .i64 x.off, .int .i64 x.time, .int .i64 x.pid, .int .i64 x.seq, .string (S y.key), .string (S y.val)] (fun w' hw' i v h => by obtain ⟨p, hp⟩ := hw'; rw [hp]; exact cell_regrown (RT.out i v (by unfold recL; rw [← E0.out]; rw [← E1.out]; rw [← E2.out]; rw [← E3.out]; rw [← E4.out]; exact h)) _ _) _ Tryz.underlying69 rfl (by kernel_rfl) ?_; simp only [Act.put, List.setIfInBounds_toArray, List.set_cons_succ, List.set_cons_zero])
              | go_big_quiet_skip
              | (go_big_quiet_want; go_big_quiet_op; go_big_quiet_on))
            refine wpQuiet_nil ?_
            intro _ hw'
            obtain ⟨⟨dq, osq⟩, hw''⟩ := hw'
            subst hw''
            have HB4 : Hid (Below w0.heap.size w0 (Sort.grow (redrawn wr dq) osq)) := HBr.out.trans ((below_regrown wr dq osq).mono HBr.out.size)
            clear k0 k1 u6 x6 RS RT
            go_wp2_with fail
            go_ret
            exact ⟨ret_bool HF.out.symm, HB0.out.trans (HB4.out.mono HB0.out.size)⟩
          have E5 := Lib.hid e5
          clear e5
          by_cases e6 : x.val = y.val
          rotate_left
          · have HF : Hid (b = false) := Lib.hid (HXN.out (fun e => e6 (by rw [e])))
            have hne : ((S x.val).toList == (S y.val).toList) = false := by rw [beq_eq_false_iff_ne, S_list, S_list]; exact e6
            clear e6
            go_upto_region 11 with fail
            refine wp_region_quiet_below (by kernel_rfl) (by kernel_rfl) ?_
            repeat (first
              | ((with_reducible refine at_q ⟨_, .load 69 (.tmp 93), _, _, _, _⟩ ?_); refine wpQuiet_load_list rfl 69 (.tmp 93) rfl ⟨f, off + j * 7, none⟩ rfl [.int .i64 x.kind, .int .i64 x.off, .int .i64 x.time, .int .i64 x.pid, .int .i64 x.seq, .string (S x.key), .string (S x.val)] (fun w' hw' i v h => by obtain ⟨p, hp⟩ := hw'; rw [hp]; exact cell_regrown (RS.out i v h) _ _) _ Tryz.underlying69 rfl (by kernel_rfl) ?_; simp only [Act.put, List.setIfInBounds_toArray, List.set_cons_succ, List.set_cons_zero])
              | ((with_reducible refine at_q ⟨_, .load 69 (.tmp 98), _, _, _, _⟩ ?_); refine wpQuiet_load_list rfl 69 (.tmp 98) rfl ⟨f', off' + j * 7, none⟩ rfl [.int .i64 x.kind, .int .i64 x.off, .int .i64 x.time, .int .i64 x.pid, .int .i64 x.seq, .string (S x.key), .string (S y.val)] (fun w' hw' i v h => by obtain ⟨p, hp⟩ := hw'; rw [hp]; exact cell_regrown (RT.out i v (by unfold recL; rw [← E0.out]; rw [← E1.out]; rw [← E2.out]; rw [← E3.out]; rw [← E4.out]; rw [← E5.out]; exact h)) _ _) _ Tryz.underlying69 rfl (by kernel_rfl) ?_; simp only [Act.put, List.setIfInBounds_toArray, List.set_cons_succ, List.set_cons_zero])
              | go_big_quiet_skip
              | (go_big_quiet_want; go_big_quiet_op; go_big_quiet_on))
            refine wpQuiet_nil ?_
            intro _ hw'
            obtain ⟨⟨dq, osq⟩, hw''⟩ := hw'
            subst hw''
            have HB4 : Hid (Below w0.heap.size w0 (Sort.grow (redrawn wr dq) osq)) := HBr.out.trans ((below_regrown wr dq osq).mono HBr.out.size)
            clear k0 k1 u6 x6 RS RT
            go_wp2_with fail
            go_ret
            exact ⟨ret_bool HF.out.symm, HB0.out.trans (HB4.out.mono HB0.out.size)⟩
          have E6 := Lib.hid e6
          clear e6
          have HTK2 : Hid (r.recs.take (j + 1) = r'.recs.take (j + 1)) := Lib.hid (HXE.out (rec_ext E0.out E1.out E2.out E3.out E4.out E5.out E6.out))
          go_upto_region 11 with fail
          refine wp_region_quiet_below (by kernel_rfl) (by kernel_rfl) ?_
          repeat (first
            | ((with_reducible refine at_q ⟨_, .load 69 (.tmp 93), _, _, _, _⟩ ?_); refine wpQuiet_load_list rfl 69 (.tmp 93) rfl ⟨f, off + j * 7, none⟩ rfl [.int .i64 x.kind, .int .i64 x.off, .int .i64 x.time, .int .i64 x.pid, .int .i64 x.seq, .string (S x.key), .string (S x.val)] (fun w' hw' i v h => by obtain ⟨p, hp⟩ := hw'; rw [hp]; exact cell_regrown (RS.out i v h) _ _) _ Tryz.underlying69 rfl (by kernel_rfl) ?_; simp only [Act.put, List.setIfInBounds_toArray, List.set_cons_succ, List.set_cons_zero])
            | ((with_reducible refine at_q ⟨_, .load 69 (.tmp 98), _, _, _, _⟩ ?_); refine wpQuiet_load_list rfl 69 (.tmp 98) rfl ⟨f', off' + j * 7, none⟩ rfl [.int .i64 x.kind, .int .i64 x.off, .int .i64 x.time, .int .i64 x.pid, .int .i64 x.seq, .string (S x.key), .string (S x.val)] (fun w' hw' i v h => by obtain ⟨p, hp⟩ := hw'; rw [hp]; exact cell_regrown (RT.out i v (by unfold recL; rw [← E0.out]; rw [← E1.out]; rw [← E2.out]; rw [← E3.out]; rw [← E4.out]; rw [← E5.out]; rw [← E6.out]; exact h)) _ _) _ Tryz.underlying69 rfl (by kernel_rfl) ?_; simp only [Act.put, List.setIfInBounds_toArray, List.set_cons_succ, List.set_cons_zero])
            | go_big_quiet_skip
            | (go_big_quiet_want; go_big_quiet_op; go_big_quiet_on))
          refine wpQuiet_nil ?_
          intro _ hw'
          obtain ⟨⟨dq, osq⟩, hw''⟩ := hw'
          subst hw''
          have HB4 : Hid (Below w0.heap.size w0 (Sort.grow (redrawn wr dq) osq)) := HBr.out.trans ((below_regrown wr dq osq).mono HBr.out.size)
          clear k0 k1 u6 x6 RS RT
          go_wp2_with fail
          go_roundw
          case rel => exact ⟨j + 1, by omega, by go_num, HTK2, HB4⟩
          case measure => simp [intOf]; omega
        · obtain rfl : j = rl := by omega
          have HRE : Hid (r.recs = r'.recs) := Lib.hid (by
            have := HTK.out
            rwa [List.take_of_length_le (by rw [HRL.out]; exact Nat.le_refl _), List.take_of_length_le (by rw [HRL'.out]; exact Nat.le_refl _)] at this)
          have HF : Hid (b = true) := HBT.out (rsp_ext H0.out H1.out H2.out H3.out H4.out H5.out HNE.out HRE.out)
          clear x6
          go_wp2_with fail
          go_ret
          exact ⟨ret_bool HF.out.symm, HB0.out.trans (HBr.out.mono HB0.out.size)⟩
end Go.Proofs.YtepalbldleegiaaGreatDoor.sh
