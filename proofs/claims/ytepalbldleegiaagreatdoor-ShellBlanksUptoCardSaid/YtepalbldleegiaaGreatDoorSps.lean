/-
  The law ShellBlanks walked.
  Conditions: those of the row: numbers as their types have them, lengths of at most a megabyte; the tables are as they were laid.
-/
import Derived.Test.YtepalbldleegiaaGreatDoorSpr
namespace Go.Proofs.YtepalbldleegiaaGreatDoor.sh
open Go.RowKit
open Go.Lib (itoa decDigits byteCells atoiAll)

theorem step_store_blk {P : Program} {ops : Array Oper} {o : Oper} {a : Act} {w : World} {K : Act → World → Prop} {Q : Exit → Act → World → Prop} {E : Prop} (hgd : o.guard = none) (ty : TypeId) (p v : Operand) (ho : o.op = .store ty p v)
    (g x : Nat) (hp : a.eval p = .pointer (some ⟨g, x, none⟩)) (l : List Value) (hv : (a.eval v).cells = l.toArray) (h1 : ∀ u ∈ l, u.oneCell' = true)
    (t : TypeId) (cs : Array Value) (hb : Blk w g t cs) (hx : x + l.length ≤ cs.size) (hi : (P.info? ty).map (·.size) = some l.length)
    (h : ∀ w', Blk w' g t (putFrom cs x l) → w.grownBy w' (some g) → K (a.put o.dst undef) w') : if Region.wanted o (yielded ops a.tmps) = true then Oper.wp P o a w K Q else E := by
  have hw : Region.wanted o (yielded ops a.tmps) = true := by simp [Region.wanted, hgd]
  rw [if_pos hw]
  exact wp_store_blk ty p v ho g x hp l hv h1 t cs hb hx hi fun w' h2 h3 _ => h w' h2 h3
theorem store_new (w : World) (ag : Array Value) (hs : ag.size = 14) (h1 : ∀ u ∈ ag.toList, u.oneCell' = true) : ∃ w', (storeCells ⟨w.heap.size, 0, none⟩ ag.toList).run Tryz.prog (w.alloc (.cells #[.int .i64 0, .int .i64 0, .int .u32 0, .int .i64 0, .string ⟨#[]⟩, .string ⟨#[]⟩, .string ⟨#[]⟩, .int .i64 0, .int .i64 0, .int .i64 0, .int .i64 0, .slice none 0 0, .int .i64 0, .slice none 0 0] 28)) = .ok () w' ∧ Below w.heap.size w w' := by
  obtain ⟨w', hr, -, hg, -⟩ := run_storeCells_blk (P := Tryz.prog) w.heap.size 0 28 ag.toList 0 zC (w.alloc (.cells zC 28)) (Blk.new w 28 zC) h1 (by simp [hs, zC])
  exact ⟨w', hr, below_gb ((Below.refl _ _).alloc (Nat.le_refl _) _) hg (le_alloc _ (Nat.le_refl _)) (Nat.le_refl _)⟩
def errN (o : Option Cmd) : Int := match o with
  | none => 230
  | some _ => 0
theorem parse_lit (l : Bs) (hl : l.length ≤ 1048576) (w : World) (ht : Tab w) (hu : Use w) (he : Errs w) : Calls Tryz.prog 12 #[.string (S l)] w fun e w' => (∃ ag : Array Value, ag.size = 14 ∧ (∀ u ∈ ag.toList, u.oneCell' = true) ∧ e = .returned (.tuple #[.agg ag, .int .i64 (errN (parseL l))])) ∧ Below w.heap.size w w' := by
  refine (parse_any l hl w ht hu he).mono ?_
  rcases parseL l with _ | c
  · rintro e w' ⟨rfl, hb⟩
    exact ⟨⟨_, rfl, cmdL_one cmd0 none none 0 0 0 0, rfl⟩, hb⟩
  · rintro e w' ⟨sR, sP, rfl, hb, hoR, hoP⟩
    obtain ⟨X, cX, rfl⟩ := own_sl hoR
    obtain ⟨Y, cY, rfl⟩ := own_sl hoP
    exact ⟨⟨_, rfl, cmdL_one c X Y _ _ _ _, rfl⟩, hb⟩
theorem blank_none (c : Cmd) (a b : Bs) (h2 : c.verb ≠ 2) (h : printL c = some (a ++ b)) (hn : ¬ ((c.verb = 5 ∨ c.verb = 8) ∧ (∃ x, a.getLast? = some x ∧ x ≠ 32) ∧ (∃ y, b.head? = some y ∧ y ≠ 32))) : errN (parseL (a ++ 32 :: b)) = 230 := by
  cases hp : parseL (a ++ 32 :: b) with
  | none => rfl
  | some d => exact absurd (blank_law c a b h2 h (by rw [hp]; simp)) hn

set_option maxRecDepth 100000 in
set_option maxHeartbeats 8000000 in
theorem blanks_any (c : Cmd) (A : Option Addr) (a : Nat) (P : Option Addr) (p : Nat) (n : Int) (hn : I64 n) (w : World) (ht : Tab w) (hu : Use w) (he : Errs w) (hI : cmdI c) (hr : BytesAt w w.heap.size A c.raw) (hp : IntsAt w w.heap.size P c.picks) :
    Calls Tryz.prog 6 #[.agg (cmdC c (.slice A c.raw.length a) (.slice P c.picks.length p)), .int .i64 n] w fun e w' => e = .returned (.bool true) ∧ Below w.heap.size w w' := by
  have hT0 := Blk.new w 28 (cmdC c (.slice A c.raw.length a) (.slice P c.picks.length p))
  have hB0 : Below w.heap.size w (w.alloc (.cells (cmdC c (.slice A c.raw.length a) (.slice P c.picks.length p)) 28)) := (Below.refl _ _).alloc (Nat.le_refl _) _
  have HR := Lib.hid (hr.up hB0)
  have HP := Lib.hid (hp.up hB0)
  have HT0 := Lib.hid hT0
  have HB0 := Lib.hid hB0
  clear hr hp hT0 hB0
  generalize hcs : cmdC c (.slice A c.raw.length a) (.slice P c.picks.length p) = cs at HR HP HT0 HB0 ⊢
  have HCS := Lib.hid hcs
  clear hcs
  go_enter Tryz.func6, Tryz.ntmps6
  go_upto_region 1 with fail
  generalize hw0 : w.alloc _ = w0 at HR HP HT0 HB0 ⊢
  clear hw0
  have hT0 := HT0.out
  rw [← HCS.out] at hT0
  replace HT0 : Hid (Blk w0 w.heap.size 28 (cmdC c (.slice A c.raw.length a) (.slice P c.picks.length p))) := hT0
  clear hT0 HCS
  have hpr := print_any c A a P p w0 (tab_below ht HB0.out) (use_below hu HB0.out) hI HR.out HP.out
  rw [cmdC_L] at hpr
  have HPR := Lib.hid hpr
  clear hpr
  go_wp2_with (first
    | ((with_reducible refine at_op ⟨_, .load 28 (.tmp 2), _, _, _, _⟩ ?_); refine wpList_load_list rfl 28 (.tmp 2) rfl ⟨w.heap.size, 0, none⟩ rfl (cmdL c (.slice A c.raw.length a) (.slice P c.picks.length p)) (cmd_load HT0.out) _ Tryz.underlying28 rfl (by kernel_rfl) ?_)
    | fail)
  refine HPR.out.mono ?_
  clear HPR
  rcases hpc : printL c with _ | s
  · rintro e w2 ⟨rfl, hb2⟩
    have HB2 : Hid (Below w.heap.size w w2) := HB0.out.trans (hb2.mono HB0.out.size)
    clear hb2 hpc
    unfold prV
    go_wp2_with fail
    refine (works_any w2 (tab_below ht HB2.out) (use_below hu HB2.out) (he.below HB2.out)).mono ?_
    rintro e wz ⟨rfl, hbz⟩
    have HBZ : Hid (Below w.heap.size w wz) := HB2.out.trans (hbz.mono HB2.out.size)
    clear hbz
    go_wp2_with fail
    go_ret
    exact ⟨rfl, HBZ.out⟩
  rintro e w2 ⟨rfl, hb2⟩
  have HB2 : Hid (Below w.heap.size w w2) := HB0.out.trans (hb2.mono HB0.out.size)
  have HT2 : Hid (Blk w2 w.heap.size 28 (cmdC c (.slice A c.raw.length a) (.slice P c.picks.length p))) := HT0.out.below hb2 HT0.out.lt
  obtain ⟨-, -, hs4, hvs, hsne⟩ := print_some hpc
  have hsz : (S s).size = s.length := S_size _
  clear hb2 hvs hsne
  have HPC := Lib.hid hpc
  clear hpc
  unfold prV
  by_cases n0 : n < 0
  · go_wp2_with fail
    refine (works_any w2 (tab_below ht HB2.out) (use_below hu HB2.out) (he.below HB2.out)).mono ?_
    rintro e wz ⟨rfl, hbz⟩
    have HBZ : Hid (Below w.heap.size w wz) := HB2.out.trans (hbz.mono HB2.out.size)
    clear hbz
    go_wp2_with fail
    go_ret
    exact ⟨rfl, HBZ.out⟩
  by_cases n1 : (s.length : Int) < n
  · go_wp2_with fail
    refine (works_any w2 (tab_below ht HB2.out) (use_below hu HB2.out) (he.below HB2.out)).mono ?_
    rintro e wz ⟨rfl, hbz⟩
    have HBZ : Hid (Below w.heap.size w wz) := HB2.out.trans (hbz.mono HB2.out.size)
    clear hbz
    go_wp2_with fail
    go_ret
    exact ⟨rfl, HBZ.out⟩
  have q0 : w2.cell? ⟨w.heap.size, 0, none⟩ = some (.int .i64 c.verb) := HT2.out.cell 0
  by_cases h2 : c.verb = 2
  · rw [h2] at q0
    go_wp2_with fail
    refine (works_any w2 (tab_below ht HB2.out) (use_below hu HB2.out) (he.below HB2.out)).mono ?_
    rintro e wz ⟨rfl, hbz⟩
    have HBZ : Hid (Below w.heap.size w wz) := HB2.out.trans (hbz.mono HB2.out.size)
    clear hbz
    go_wp2_with fail
    go_ret
    exact ⟨rfl, HBZ.out⟩
  have h2' : (c.verb == 2) = false := by rw [beq_eq_false_iff_ne]; exact h2
  have H2 := Lib.hid h2
  clear h2
  obtain ⟨k, rfl⟩ : ∃ k : Nat, n = (k : Int) := ⟨n.toNat, by omega⟩
  have hks : k ≤ s.length := by omega
  obtain ⟨xa, hxa⟩ : ∃ x, s.take k = x := ⟨_, rfl⟩
  obtain ⟨xb, hxb⟩ : ∃ x, s.drop k = x := ⟨_, rfl⟩
  have hsab : s = xa ++ xb := by rw [← hxa, ← hxb, List.take_append_drop]
  have hla : xa.length ≤ 4096 := by rw [← hxa, List.length_take]; omega
  have hlb : xb.length ≤ 4096 := by rw [← hxb, List.length_drop]; omega
  have hsl1 : ∀ W, (Instr.slice 9 (.string (S s)) none (some (.int .i64 (k : Int))) none).run Tryz.prog W = .ok (.string (S xa)) W := fun W => by
    rw [run_slice_string_to_if _ _ _ _ _ Tryz.underlying9, if_pos (by rw [S_size]; omega)]
    have e : (S s).extract 0 ((k : Int)).toNat = S xa := by
      apply Go.WideShapes.bytes_inj
      rw [Int.toNat_natCast, ByteArray.data_extract]
      simp only [S, Array.toList_extract, List.extract_eq_take_drop, List.drop_zero, Nat.sub_zero]
      exact hxa
    rw [e]
  have hsl2 : ∀ W, (Instr.slice 9 (.string (S s)) (some (.int .i64 (k : Int))) none none).run Tryz.prog W = .ok (.string (S xb)) W := fun W => by rw [← hxb]; exact S_from s k hks W
  obtain ⟨y1, hy1⟩ : ∃ y, xa ++ [32] = y := ⟨_, rfl⟩
  have hly : y1.length ≤ 4097 := by rw [← hy1, List.length_append, List.length_singleton]; omega
  have had1 : ∀ W, (Op.stringOp .add (S xa) (⟨#[32]⟩ : ByteArray)).run Tryz.prog W = .ok (.string (S y1)) W := fun W => by rw [← hy1]; exact S_add xa [32] (by simp only [List.length_cons, List.length_nil]; omega) W
  obtain ⟨y2, hy2⟩ : ∃ y, y1 ++ xb = y := ⟨_, rfl⟩
  have had2 : ∀ W, (Op.stringOp .add (S y1) (S xb)).run Tryz.prog W = .ok (.string (S y2)) W := fun W => by rw [← hy2]; exact S_add y1 xb (by omega) W
  have HY2 : Hid (y2 = xa ++ 32 :: xb) := Lib.hid (by rw [← hy2, ← hy1]; simp)
  have hly2 : y2.length ≤ 1048576 := by rw [← hy2, List.length_append]; omega
  obtain ⟨e1, he1⟩ : ∃ x, errN (parseL y2) = x := ⟨_, rfl⟩
  have HE1 := Lib.hid he1
  have HAB := Lib.hid hsab
  have HXA := Lib.hid hxa
  have HXB := Lib.hid hxb
  have HPA : Hid (∀ W, Below w2.heap.size w2 W → Calls Tryz.prog 12 #[.string (S y2)] W fun e w' => (∃ ag : Array Value, ag.size = 14 ∧ (∀ u ∈ ag.toList, u.oneCell' = true) ∧ e = .returned (.tuple #[.agg ag, .int .i64 e1])) ∧ Below W.heap.size W w') := Lib.hid fun W hb => by
    have := parse_lit y2 hly2 W (tab_below ht (HB2.out.trans (hb.mono HB2.out.size))) (use_below hu (HB2.out.trans (hb.mono HB2.out.size))) (he.below (HB2.out.trans (hb.mono HB2.out.size)))
    rw [he1] at this
    exact this
  clear he1 hsab hxa hxb hy1 hy2 hly hly2 hla hlb
  go_upto_region 4 with fail
  go_cut [8] (fun s8 wx => s8 = .int .i64 e1 ∧ Hid (Below w2.heap.size w2 wx))
  case first =>
    first
      | go_region_held3 (fun w' => Below w2.heap.size w2 w') (first | assumption | exact (Below.refl _ _).drew | exact (Below.refl _ _).drew.alloc (Nat.le_refl _) _ | exact ((Below.refl _ _).alloc (Nat.le_refl _) _).drew | exact HK3.alloc HK3.size _ | fail)
          (first
            | ((with_reducible refine (HPA.out _ (by assumption)).mono ?_); rintro e w3 ⟨⟨ag, hags, hone, rfl⟩, hb3⟩; have HK3 : Below w2.heap.size w2 w3 := Below.trans (by assumption) (hb3.mono (Below.size (by assumption))); obtain ⟨w5, hst, hg5⟩ := store_new w3 ag hags hone; have HK5 : Below w2.heap.size w2 w5 := HK3.trans (hg5.mono HK3.size); (try (have hz : Blk w3 w2.heap.size 28 zC := (by first | exact Blk.below (Blk.new w2 28 zC) hb3 (by show w2.heap.size < (w2.heap.push _).size; simp) | exact Blk.below (Blk.new w2.drew 28 zC) hb3 (by show w2.heap.size < (w2.heap.push _).size; simp)); obtain ⟨w6, hst6, -, hg6, -⟩ := run_storeCells_blk (P := Tryz.prog) w2.heap.size 0 28 ag.toList 0 zC w3 hz hone (by simp [hags, zC]); have HK6 : Below w2.heap.size w2 w6 := below_gb HK3 hg6 HK3.size (Nat.le_refl _); clear hz hg6)); clear hb3 hone hg5)
            | fail)
      | fail
    all_goals
      go_wp2_with fail
      go_meet
      first | exact ⟨rfl, HK5⟩ | exact ⟨rfl, HK6⟩
  case rest =>
    obtain ⟨rfl, HBc⟩ := hcut
    have HK : Hid (∀ W, Below w2.heap.size w2 W → W.cell? ⟨w.heap.size, 0, none⟩ = some (.int .i64 c.verb)) := Lib.hid fun W hb => (HT2.out.below hb HT2.out.lt).cell 0
    have HPX : Hid (∀ y : Bs, y.length ≤ 1048576 → ∀ W, Below w2.heap.size w2 W → Calls Tryz.prog 12 #[.string (S y)] W fun e w' => (∃ ag : Array Value, ag.size = 14 ∧ (∀ u ∈ ag.toList, u.oneCell' = true) ∧ e = .returned (.tuple #[.agg ag, .int .i64 (errN (parseL y))])) ∧ Below W.heap.size W w') := Lib.hid fun y hy W hb => parse_lit y hy W (tab_below ht (HB2.out.trans (hb.mono HB2.out.size))) (use_below hu (HB2.out.trans (hb.mono HB2.out.size))) (he.below (HB2.out.trans (hb.mono HB2.out.size)))
    have he2 : errN (parseL (s ++ [32])) = 230 := blank_none c s [] H2.out (by rw [HPC.out, List.append_nil]) (by rintro ⟨-, -, y, hy, -⟩; simp at hy)
    have he3 : errN (parseL (32 :: s)) = 230 := blank_none c [] s H2.out (by rw [HPC.out, List.nil_append]) (by rintro ⟨-, ⟨y, hy, -⟩, -⟩; simp at hy)
    obtain ⟨y3, hy3⟩ : ∃ y, s ++ [32] = y := ⟨_, rfl⟩
    obtain ⟨y4, hy4⟩ : ∃ y, 32 :: s = y := ⟨_, rfl⟩
    have had3 : ∀ W, (Op.stringOp .add (S s) (⟨#[32]⟩ : ByteArray)).run Tryz.prog W = .ok (.string (S y3)) W := fun W => by rw [← hy3]; exact S_add s [32] (by simp only [List.length_cons, List.length_nil]; omega) W
    have had4 : ∀ W, (Op.stringOp .add (⟨#[32]⟩ : ByteArray) (S s)).run Tryz.prog W = .ok (.string (S y4)) W := fun W => by rw [← hy4]; exact S_add [32] s (by simp only [List.length_cons, List.length_nil]; omega) W
    have hp3 := HPX.out y3 (by rw [← hy3, List.length_append, List.length_singleton]; omega) wc HBc.out
    have HP4 : Hid (∀ W, Below w2.heap.size w2 W → _) := Lib.hid (HPX.out y4 (by rw [← hy4, List.length_cons]; omega))
    rw [hy3] at he2
    rw [hy4] at he3
    have HE3 := Lib.hid he3
    rw [he2] at hp3
    clear hy3 hy4 he2 he3 HPX hsl1 hsl2 had1 had2 q0
    go_wp2_with fail
    refine hp3.mono ?_
    clear hp3
    rintro e w5 ⟨⟨ag, hags, hone, rfl⟩, hb5⟩
    have HB5 : Hid (Below w2.heap.size w2 w5) := HBc.out.trans (hb5.mono HBc.out.size)
    obtain ⟨w6, hst, hg6⟩ := store_new w5 ag hags hone
    have HB6 : Hid (Below w2.heap.size w2 w6) := HB5.out.trans (hg6.mono HB5.out.size)
    clear hb5 hone hg6
    go_wp2_with fail
    clear hst hags had3
    have hp4 := HP4.out w6 HB6.out
    rw [HE3.out] at hp4
    refine hp4.mono ?_
    clear hp4 HP4
    rintro e w7 ⟨⟨ag2, hags2, hone2, rfl⟩, hb7⟩
    have HB7 : Hid (Below w2.heap.size w2 w7) := HB6.out.trans (hb7.mono HB6.out.size)
    obtain ⟨w8, hst2, hg8⟩ := store_new w7 ag2 hags2 hone2
    have HB8 : Hid (Below w2.heap.size w2 w8) := HB7.out.trans (hg8.mono HB7.out.size)
    have HB9 : Hid (Below w.heap.size w w8) := HB2.out.trans (HB8.out.mono HB2.out.size)
    clear hb7 hone2 hg8
    go_upto_region 7 with fail
    clear hst2 hags2 had4
    have q0 : w8.cell? ⟨w.heap.size, 0, none⟩ = some (.int .i64 c.verb) := HK.out w8 HB8.out
    have HLAW : Hid (¬ ((c.verb = 5 ∨ c.verb = 8) ∧ (∃ x, xa.getLast? = some x ∧ x ≠ 32) ∧ (∃ y, xb.head? = some y ∧ y ≠ 32)) → e1 = 230) := Lib.hid fun hn => by
      rw [← HE1.out, HY2.out]
      exact blank_none c xa xb H2.out (by rw [HPC.out, HAB.out]) hn
    by_cases hk0 : k = 0
    · subst hk0
      have h1 : e1 = 230 := HLAW.out (by rintro ⟨-, ⟨x, hx, -⟩, -⟩; rw [← HXA.out] at hx; simp at hx)
      rw [h1]
      go_wp2_with fail
      go_ret
      exact ⟨rfl, HB9.out⟩
    have hkp : 0 < k := by omega
    by_cases hkl : k = s.length
    · have h1 : e1 = 230 := HLAW.out (by rintro ⟨-, -, x, hx, -⟩; rw [← HXB.out, hkl] at hx; simp at hx)
      have hkl' : ¬ k < s.length := by omega
      have hkp' : 0 < (k : Int) := by omega
      have hkl2 : ¬ (k : Int) < s.length := by omega
      rw [h1]
      clear hkl hk0
      go_wp2_with fail
      go_ret
      exact ⟨rfl, HB9.out⟩
    have hlt : k < s.length := by omega
    obtain ⟨x1, hx1⟩ : ∃ x, s[k - 1] = x := ⟨_, rfl⟩
    obtain ⟨x2, hx2⟩ : ∃ x, s[k] = x := ⟨_, rfl⟩
    have HL1 : Hid (xa.getLast? = some x1) := Lib.hid (by
      rw [← HXA.out, List.getLast?_eq_getElem?, List.length_take, Nat.min_eq_left (Nat.le_of_lt hlt), List.getElem?_take_of_lt (by omega), ← hx1]
      exact List.getElem?_eq_getElem (by omega))
    have HL2 : Hid (xb.head? = some x2) := Lib.hid (by
      rw [← HXB.out, List.head?_drop, ← hx2]
      exact List.getElem?_eq_getElem hlt)
    have hi1 : ∀ W, (Instr.index 9 (.string (S s)) (.int .i64 ((k : Int) - 1))).run Tryz.prog W = .ok (.int .u8 (x1.toNat : Int)) W := fun W => by
      have := S_idx s (k - 1) (by omega) W
      rw [hx1, show ((k - 1 : Nat) : Int) = (k : Int) - 1 by omega] at this
      exact this
    have hi2 : ∀ W, (Instr.index 9 (.string (S s)) (.int .i64 (k : Int))).run Tryz.prog W = .ok (.int .u8 (x2.toNat : Int)) W := fun W => by
      have := S_idx s k hlt W
      rw [hx2] at this
      exact this
    have hkp' : 0 < (k : Int) := by omega
    have hlt' : (k : Int) < s.length := by omega
    clear hx1 hx2 hk0 hkl
    by_cases h32 : x1 = 32
    · have h1 : e1 = 230 := HLAW.out (by rintro ⟨-, ⟨x, hx, hxn⟩, -⟩; rw [HL1.out] at hx; exact hxn ((Option.some.inj hx).symm.trans h32))
      subst h32
      have hi1' : ∀ W, (Instr.index 9 (.string (S s)) (.int .i64 ((k : Int) - 1))).run Tryz.prog W = .ok (.int .u8 32) W := hi1
      clear hi1
      rw [h1]
      go_wp2_with fail
      go_ret
      exact ⟨rfl, HB9.out⟩
    have hn1 : ((x1.toNat : Int) != 32) = true := by
      rw [bne_iff_ne]
      intro h
      exact h32 ((u8_eq x1 32 (by decide)).1 (by omega))
    by_cases h33 : x2 = 32
    · have h1 : e1 = 230 := HLAW.out (by rintro ⟨-, -, x, hx, hxn⟩; rw [HL2.out] at hx; exact hxn ((Option.some.inj hx).symm.trans h33))
      subst h33
      have hi2' : ∀ W, (Instr.index 9 (.string (S s)) (.int .i64 (k : Int))).run Tryz.prog W = .ok (.int .u8 32) W := hi2
      clear hi2
      rw [h1]
      go_wp2_with fail
      go_ret
      exact ⟨rfl, HB9.out⟩
    have hn2 : ((x2.toNat : Int) != 32) = true := by
      rw [bne_iff_ne]
      intro h
      exact h33 ((u8_eq x2 32 (by decide)).1 (by omega))
    by_cases v5 : c.verb = 5
    · rw [v5] at q0
      clear v5 h2'
      go_wp2_with fail
      go_ret
      exact ⟨rfl, HB9.out⟩
    by_cases v8 : c.verb = 8
    · rw [v8] at q0
      clear v8 h2' v5
      go_wp2_with fail
      go_ret
      exact ⟨rfl, HB9.out⟩
    have h1 : e1 = 230 := HLAW.out (by rintro ⟨h | h, -, -⟩; exact v5 h; exact v8 h)
    have v5' : (c.verb == 5) = false := by rw [beq_eq_false_iff_ne]; exact v5
    have v8' : (c.verb == 8) = false := by rw [beq_eq_false_iff_ne]; exact v8
    rw [h1]
    go_wp2_with fail
    go_ret
    exact ⟨rfl, HB9.out⟩
end Go.Proofs.YtepalbldleegiaaGreatDoor.sh
