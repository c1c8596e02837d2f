/-
  What stands behind a line's word: bytes, and two numbers: walked.
  Conditions: numbers as their types have them; the table of powers of ten is as it was laid.
-/
import Derived.Test.YtepalbldleegiaaGreatDoorSza
import Derived.Deep.RegionHeld3
namespace Go.Proofs.YtepalbldleegiaaGreatDoor.sh
open Go.RowKit
open Go.Lib (itoa decDigits byteCells)

set_option maxRecDepth 100000 in
set_option maxHeartbeats 2000000 in
theorem take_any (c : Cmd) (sR sP : Value) (w : World) (ht : Tab w) (hc : I64 c.conn) (hn : I64 c.n) : Calls Tryz.prog 52 #[.agg (cmdC c sR sP)] w (WrPost w [itoa c.conn, itoa c.n]) := by
  obtain ⟨i0, hi0, hz0, hz1, hz2⟩ := info_parts infoStr
  have hb0 : Below w.heap.size w (w.alloc (.cells (cmdC c sR sP) 28)) := (Below.refl _ _).alloc (Nat.le_refl _) _
  have hT0 := Blk.new w 28 (cmdC c sR sP)
  have HB0 := Lib.hid hb0
  have HT0 := Lib.hid hT0
  have HT := Lib.hid ht
  clear hb0 ht hT0
  unfold cmdC at HB0 HT0 ⊢
  go_enter Tryz.func52, Tryz.ntmps52
  go_upto_region 1 with fail
  generalize hw0 : w.alloc _ = w0 at HB0 HT0 ⊢
  have HTB : Hid (Tab w0) := tab_below HT.out HB0.out
  clear hw0
  have k0 : ∀ w', Below w0.heap.size w0 w' → w'.cell? ⟨w.heap.size, 0, none⟩ = some (.int .i64 c.verb) := fun w' hb => (HT0.out.below hb HT0.out.lt).cell 0
  have k1 : ∀ w', Below w0.heap.size w0 w' → w'.cell? ⟨w.heap.size, 1, none⟩ = some (.int .i64 c.conn) := fun w' hb => (HT0.out.below hb HT0.out.lt).cell 1
  have k2 : ∀ w', Below w0.heap.size w0 w' → w'.cell? ⟨w.heap.size, 2, none⟩ = some (.int .u32 c.req.id) := fun w' hb => (HT0.out.below hb HT0.out.lt).cell 2
  have k3 : ∀ w', Below w0.heap.size w0 w' → w'.cell? ⟨w.heap.size, 3, none⟩ = some (.int .i64 c.req.op) := fun w' hb => (HT0.out.below hb HT0.out.lt).cell 3
  have k4 : ∀ w', Below w0.heap.size w0 w' → w'.cell? ⟨w.heap.size, 4, none⟩ = some (.string (S c.req.topic)) := fun w' hb => (HT0.out.below hb HT0.out.lt).cell 4
  have k5 : ∀ w', Below w0.heap.size w0 w' → w'.cell? ⟨w.heap.size, 5, none⟩ = some (.string (S c.req.key)) := fun w' hb => (HT0.out.below hb HT0.out.lt).cell 5
  have k6 : ∀ w', Below w0.heap.size w0 w' → w'.cell? ⟨w.heap.size, 6, none⟩ = some (.string (S c.req.value)) := fun w' hb => (HT0.out.below hb HT0.out.lt).cell 6
  have k7 : ∀ w', Below w0.heap.size w0 w' → w'.cell? ⟨w.heap.size, 7, none⟩ = some (.int .i64 c.req.off) := fun w' hb => (HT0.out.below hb HT0.out.lt).cell 7
  have k8 : ∀ w', Below w0.heap.size w0 w' → w'.cell? ⟨w.heap.size, 8, none⟩ = some (.int .i64 c.req.num) := fun w' hb => (HT0.out.below hb HT0.out.lt).cell 8
  have k9 : ∀ w', Below w0.heap.size w0 w' → w'.cell? ⟨w.heap.size, 9, none⟩ = some (.int .i64 c.req.pid) := fun w' hb => (HT0.out.below hb HT0.out.lt).cell 9
  have k10 : ∀ w', Below w0.heap.size w0 w' → w'.cell? ⟨w.heap.size, 10, none⟩ = some (.int .i64 c.req.seq) := fun w' hb => (HT0.out.below hb HT0.out.lt).cell 10
  have k11 : ∀ w', Below w0.heap.size w0 w' → w'.cell? ⟨w.heap.size, 11, none⟩ = some (sR) := fun w' hb => (HT0.out.below hb HT0.out.lt).cell 11
  have k12 : ∀ w', Below w0.heap.size w0 w' → w'.cell? ⟨w.heap.size, 12, none⟩ = some (.int .i64 c.n) := fun w' hb => (HT0.out.below hb HT0.out.lt).cell 12
  have k13 : ∀ w', Below w0.heap.size w0 w' → w'.cell? ⟨w.heap.size, 13, none⟩ = some (sP) := fun w' hb => (HT0.out.below hb HT0.out.lt).cell 13
  go_region_held3 (fun w' => Below w0.heap.size w0 w') (first | assumption | exact (Below.refl _ _).drew)
    (first
      | (go_at_call 36; refine (label_any c sR sP _ (tab_below HTB.out (Below.refl _ _).drew) hc).mono ?_; rintro e w1 ⟨v1, rfl, ho1, hb1⟩; have HK1 : Below w0.heap.size w0 w1 := ((Below.refl _ _).drew).trans (hb1.mono (Nat.le_refl _)); have HO1 : Hid (w1.ownsRow w0.heap.size 9 1 v1 1 (strV [itoa c.conn])) := ho1; clear hb1 ho1)
      | (go_at_call 46; refine (amount_any c sR sP _ (tab_below HTB.out HK1) hn).mono ?_; rintro e w2 ⟨v2, rfl, ho2, hb2⟩; have HK2 : Below w0.heap.size w0 w2 := HK1.trans (hb2.mono HK1.size); have HO2 : Hid (w2.ownsRow w0.heap.size 9 1 v1 1 (strV [itoa c.conn])) := own_keep HO1.out hb2; obtain ⟨g2, cap2, rfl, _, hg2, _, hcl2⟩ := own_read ho2 (Nat.succ_pos _); have HCL := Lib.hid hcl2; clear hb2 ho2 hcl2)
      | (refine step_append_own rfl (.tmp 4) (.tmp 6) 43 rfl w0.heap.size 9 i0 _ 1 16 Tryz.underlying43 hi0 hz0 hz1 hz2 rfl (by decide) v1 1 _ rfl HO2.out ⟨g2, 0, none⟩ 1 cap2 (strV [itoa c.n]) rfl rfl (fun j u hu => by rw [add_flat]; exact HCL.out j u hu) (strV_one _) (le_maxLen (by omega)) (by omega) HK2.size ?_; intro v6 w6 hown6 hg6; have HK6 : Below w0.heap.size w0 w6 := HK2.grown hg6 HK2.size (fun q hq => (HO2.out.lt q hq).1); have HO6 := Lib.hid hown6; clear hown6 hg6))
  go_wp2_with fail
  go_ret
  exact ⟨_, rfl, owns_base HO6.out HB0.out.size, HB0.out.trans (HK6.mono HB0.out.size)⟩

set_option maxRecDepth 100000 in
set_option maxHeartbeats 2000000 in
theorem raw_any (c : Cmd) (A : Option Addr) (a : Nat) (sP : Value) (w : World) (ht : Tab w) (hc : I64 c.conn) (hn : c.raw.length ≤ 1048576) (hr : BytesAt w w.heap.size A c.raw) : Calls Tryz.prog 43 #[.agg (cmdC c (.slice A c.raw.length a) sP)] w (WrPost w [itoa c.conn, rawL c.raw]) := by
  obtain ⟨i0, hi0, hz0, hz1, hz2⟩ := info_parts infoStr
  have hb0 : Below w.heap.size w (w.alloc (.cells (cmdC c (.slice A c.raw.length a) sP) 28)) := (Below.refl _ _).alloc (Nat.le_refl _) _
  have hT0 := Blk.new w 28 (cmdC c (.slice A c.raw.length a) sP)
  have HB0 := Lib.hid hb0
  have HT0 := Lib.hid hT0
  have HT := Lib.hid ht
  have HR := Lib.hid hr
  clear hb0 ht hT0 hr
  generalize hcs : cmdC c (.slice A c.raw.length a) sP = cs at HB0 HT0 ⊢
  have HCS := Lib.hid hcs
  clear hcs
  go_enter Tryz.func43, Tryz.ntmps43
  go_upto_region 1 with fail
  generalize hw0 : w.alloc _ = w0 at HB0 HT0 ⊢
  have HTB : Hid (Tab w0) := tab_below HT.out HB0.out
  have q3 : w0.cell? ⟨w.heap.size, 11, none⟩ = some (.slice A c.raw.length a) := (HT0.out.cell 11).trans (by rw [← HCS.out]; rfl)
  clear hw0
  obtain ⟨kr, hkr⟩ : ∃ y : Bs, y = rawL c.raw := ⟨_, rfl⟩
  have KR := Lib.hid hkr
  clear hkr
  go_upto_if 7 with fail
  go_cut [3] (fun s3 wx => s3 = .string (S kr) ∧ Hid (Below w0.heap.size w0 wx))
  case first =>
    by_cases h0 : 0 < c.raw.length
    · go_wp2_with fail
      refine (digitsOf_any c.raw A a w0 (by omega) (fun hne => ?_)).mono ?_
      · obtain ⟨b, off, e, hb, hcl⟩ := (HR.out.up HB0.out) hne
        exact ⟨b, off, e, hb, hcl⟩
      rintro e w1 ⟨rfl, hb1⟩
      have HB1 := Lib.hid hb1
      have hk : S (c.raw.flatMap hexL) = S kr := by rw [KR.out]; unfold rawL; rw [if_neg (by intro e; rw [e] at h0; simp at h0)]
      clear hb1
      go_wp2_with fail
      go_meet
      exact ⟨rfl, HB1⟩
    · have hk : S [45] = S kr := by rw [KR.out]; unfold rawL; rw [if_pos (List.eq_nil_of_length_eq_zero (by omega))]
      go_wp2_with fail
      go_meet
      exact ⟨congrArg Value.string hk, Below.refl _ _⟩
  case rest =>
    obtain ⟨rfl, HBc⟩ := hcut
    have HTc := Lib.hid (HT0.out.below HBc.out HT0.out.lt)
    have HTBc : Hid (Tab wc) := tab_below HTB.out HBc.out
    clear q3
    go_wp2_with (first
      | ((with_reducible refine at_op ⟨_, .load 28 (.tmp 1), _, _, _, _⟩ ?_); refine wpList_load_list rfl 28 (.tmp 1) rfl ⟨w.heap.size, 0, none⟩ rfl (cmdL c (.slice A c.raw.length a) sP) (cmd_load (by rw [HCS.out]; exact HTc.out)) _ Tryz.underlying28 rfl (by kernel_rfl) ?_)
      | fail)
    refine (label_any c (.slice A c.raw.length a) sP wc HTBc.out hc).mono ?_
    rintro e w2 ⟨v2, rfl, ho2, hb2⟩
    have HB2 : Hid (Below w0.heap.size w0 w2) := HBc.out.trans (hb2.mono HBc.out.size)
    have HO2 : Hid (w2.ownsRow w0.heap.size 9 1 v2 1 (strV [itoa c.conn])) := owns_base ho2 HBc.out.size
    clear ho2 hb2 HTc HTBc HBc
    simp only []
    go_step
    go_step
    go_step
    go_step
    go_step
    go_step
    go_step
    refine wpList_append_own (w2.alloc (.cells #[.string (S kr)] 9)) rfl (.tmp 12) (.tmp 14) 43 rfl w0.heap.size 9 i0 _ 1 16 Tryz.underlying43 hi0 hz0 hz1 hz2 rfl (by decide) _ 1 _ rfl (HO2.out.alloc _) ⟨w2.heap.size, 0, none⟩ 1 1 (strV [kr]) rfl rfl (built_cells w2 _ _ _ rfl) (strV_one _) (le_maxLen (by omega)) (by omega) (le_alloc _ HB2.out.size) ?_
    intro v6 w6 hown6 hg6 _
    have HB6 : Hid (Below w0.heap.size w0 w6) := (HB2.out.alloc HB2.out.size _).grown hg6 (le_alloc _ HB2.out.size) (fun q hq => (HO2.out.lt q hq).1)
    have HO6 : Hid (w6.ownsRow w0.heap.size 9 1 v6 2 (strV [itoa c.conn, rawL c.raw])) := Lib.hid (by rw [← KR.out]; exact hown6)
    clear hown6 hg6
    go_wp2_with fail
    go_ret
    exact ⟨_, rfl, owns_base HO6.out HB0.out.size, HB0.out.trans (HB6.out.mono HB0.out.size)⟩

def wrF : Nat → Nat
  | 0 => 36
  | 1 => 36
  | 2 => 40
  | 3 => 43
  | 4 => 46
  | 5 => 49
  | 6 => 52
  | 7 => 46
  | 8 => 49
  | _ => 56
def rdF : Nat → Nat
  | 0 => 37
  | 1 => 39
  | 2 => 41
  | 3 => 44
  | 4 => 47
  | 5 => 50
  | 6 => 53
  | 7 => 54
  | 8 => 55
  | 9 => 57
  | _ => 58
def verbL (i : Nat) : List Value := [.string (S (verbWords.getD i [])), .func (.func (wrF i)) #[] #[], .func (.func (rdF i)) #[] #[]]
set_option maxRecDepth 100000 in
set_option maxHeartbeats 2000000 in
theorem verbs_any (w : World) : Calls Tryz.prog 21 #[] w fun e w' => ∃ g, e = .returned (.slice (some ⟨g, 0, none⟩) 11 11) ∧ w.heap.size ≤ g ∧ g < w'.heap.size ∧ (∀ i, i < 11 → ∀ j v, (verbL i)[j]? = some v → w'.cell? ⟨g, i * 3 + j, none⟩ = some v) ∧ Below w.heap.size w w' := by
  go_enter Tryz.func21, Tryz.ntmps21
  go_wp2_with fail
  go_ret
  refine ⟨_, rfl, Nat.le_refl _, by simp, fun i hi j v hv => ?_, (Below.refl _ _).alloc (Nat.le_refl _) _⟩
  rw [new_cell _ _ _ _ _ rfl]
  have hj : j < 3 := (List.getElem?_eq_some_iff.1 hv).1
  rcases (by omega : i = 0 ∨ i = 1 ∨ i = 2 ∨ i = 3 ∨ i = 4 ∨ i = 5 ∨ i = 6 ∨ i = 7 ∨ i = 8 ∨ i = 9 ∨ i = 10) with rfl | rfl | rfl | rfl | rfl | rfl | rfl | rfl | rfl | rfl | rfl <;> rcases (by omega : j = 0 ∨ j = 1 ∨ j = 2) with rfl | rfl | rfl <;> exact hv
end Go.Proofs.YtepalbldleegiaaGreatDoor.sh
