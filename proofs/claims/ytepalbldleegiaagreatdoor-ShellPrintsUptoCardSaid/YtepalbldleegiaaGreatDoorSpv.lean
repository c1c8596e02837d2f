/-
  The law ShellPrints: walked.
  Conditions: those of the row; the tables are as they were laid.
-/
import Derived.Test.YtepalbldleegiaaGreatDoorSzm
import Derived.Test.YtepalbldleegiaaGreatDoorSzk
import Derived.Test.YtepalbldleegiaaGreatDoorSqh
namespace Go.Proofs.YtepalbldleegiaaGreatDoor.sh
open Go.RowKit
open Go.Lib (itoa decDigits byteCells atoiAll)

/-- a's first i, then b's others -/
def mixV {α : Type} (a b : List α) (i : Nat) : List α := a.take i ++ b.drop i
theorem mixV_zero {α : Type} (a b : List α) : mixV a b 0 = b := by simp [mixV]
theorem mixV_full {α : Type} (a b : List α) (h : b.length = a.length) : mixV a b a.length = a := by unfold mixV; rw [List.take_length, List.drop_eq_nil_of_le (Nat.le_of_eq h), List.append_nil]
theorem mixV_len {α : Type} (a b : List α) (h : b.length = a.length) {i : Nat} (hi : i ≤ a.length) : (mixV a b i).length = a.length := by simp [mixV]; omega
theorem mixV_set {α : Type} (a b : List α) (h : b.length = a.length) {i : Nat} (hi : i < a.length) : (mixV a b i).set i a[i] = mixV a b (i + 1) := by
  unfold mixV
  have hl : (a.take i).length = i := by simp; omega
  rw [List.set_append_right _ _ (by omega), hl, Nat.sub_self, List.drop_eq_getElem_cons (by omega), List.set_cons_zero, List.take_succ_eq_append_getElem hi, List.append_assoc]
  rfl
theorem byteCells_set (l : Bs) (j : Nat) (x : UInt8) : (byteCells l).set j (.int .u8 (x.toNat : Int)) = byteCells (l.set j x) := by simp [byteCells, List.map_set]
theorem intV_set (l : List Int) (j : Nat) (x : Int) : (intV l).set j (.int .i64 x) = intV (l.set j x) := by simp [intV, List.map_set]

/-- what lies in memory while the law works: the command's box, its copy's, the copy's two lists with a mark behind each -/
structure Pp (c : Cmd) (A : Option Addr) (a : Nat) (P : Option Addr) (p : Nat) (w wr : World) (h bR kR bP kP : Nat) (xs ys : List Value) : Prop where
  low : Below w.heap.size w wr
  box : Blk wr w.heap.size 28 (cmdC c (.slice A c.raw.length a) (.slice P c.picks.length p))
  cpy : Blk wr h 28 (cmdC c (.slice (some ⟨bR, 0, none⟩) c.raw.length kR) (.slice (some ⟨bP, 0, none⟩) c.picks.length kP))
  hlt : w.heap.size < h
  hR : w.heap.size < bR
  hP : w.heap.size < bP
  raws : ∃ cs, Blk wr bR 5 cs ∧ HasV cs (xs ++ [Value.int .u8 77])
  picks : ∃ cs, Blk wr bP 3 cs ∧ HasV cs (ys ++ [Value.int .i64 (-77)])
theorem blk_diff {w : World} {g g' : Nat} {t t' : TypeId} {cs cs' : Array Value} (h : Blk w g t cs) (h' : Blk w g' t' cs') (hne : t ≠ t') : g ≠ g' := by
  intro e
  subst e
  unfold Blk at h h'
  rw [h] at h'
  injection h' with h'
  injection h' with h1 h2
  exact hne h2

section
variable {c : Cmd} {A : Option Addr} {a : Nat} {P : Option Addr} {p : Nat} {w wr w' : World} {h bR kR bP kP : Nat} {xs ys : List Value}
theorem Pp.below (x : Pp c A a P p w wr h bR kR bP kP xs ys) (hb : Below wr.heap.size wr w') : Pp c A a P p w w' h bR kR bP kP xs ys := by
  obtain ⟨cs, h1, h2⟩ := x.raws
  obtain ⟨cs', h1', h2'⟩ := x.picks
  exact ⟨x.low.trans (hb.mono x.low.size), x.box.below hb x.box.lt, x.cpy.below hb x.cpy.lt, x.hlt, x.hR, x.hP, ⟨cs, h1.below hb h1.lt, h2⟩, ⟨cs', h1'.below hb h1'.lt, h2'⟩⟩
theorem Pp.setR (x : Pp c A a P p w wr h bR kR bP kP xs ys) {cs : Array Value} {xs' : List Value} (hb : Blk w' bR 5 cs) (hh : HasV cs (xs' ++ [Value.int .u8 77])) (hg : wr.grownBy w' (some bR)) : Pp c A a P p w w' h bR kR bP kP xs' ys := by
  obtain ⟨cs0, h1, h2⟩ := x.raws
  obtain ⟨cs', h1', h2'⟩ := x.picks
  have hR := x.hR
  have n1 := blk_diff h1' h1 (by decide)
  have n2 := blk_diff x.cpy h1 (by decide)
  exact ⟨below_gb x.low hg x.low.size (by omega), x.box.gb hg (by omega), x.cpy.gb hg n2, x.hlt, x.hR, x.hP, ⟨cs, hb, hh⟩, ⟨cs', h1'.gb hg n1, h2'⟩⟩
theorem Pp.setP (x : Pp c A a P p w wr h bR kR bP kP xs ys) {cs : Array Value} {ys' : List Value} (hb : Blk w' bP 3 cs) (hh : HasV cs (ys' ++ [Value.int .i64 (-77)])) (hg : wr.grownBy w' (some bP)) : Pp c A a P p w w' h bR kR bP kP xs ys' := by
  obtain ⟨cs0, h1, h2⟩ := x.picks
  obtain ⟨cs', h1', h2'⟩ := x.raws
  have hP := x.hP
  have n1 := blk_diff h1' h1 (by decide)
  have n2 := blk_diff x.cpy h1 (by decide)
  exact ⟨below_gb x.low hg x.low.size (by omega), x.box.gb hg (by omega), x.cpy.gb hg n2, x.hlt, x.hR, x.hP, ⟨cs', h1'.gb hg n1, h2'⟩, ⟨cs, hb, hh⟩⟩
end
set_option maxRecDepth 100000 in
theorem xor255 (x : UInt8) : ∃ y : UInt8, bits .xor .u8 (x.toNat : Int) 255 = (y.toNat : Int) := by
  have h : ∀ i : Fin 256, bits .xor .u8 ((i.val : Nat) : Int) 255 = ((255 - i.val : Nat) : Int) := by decide
  have hx := x.toNat_lt
  have e : (UInt8.ofNat (255 - x.toNat)).toNat = 255 - x.toNat := by
    rw [UInt8.toNat_ofNat']
    exact Nat.mod_eq_of_lt (by omega)
  exact ⟨UInt8.ofNat (255 - x.toNat), by rw [e]; exact h ⟨x.toNat, hx⟩⟩
theorem wrap_ok (n : Int) : I64 (wrap64 n) := by
  unfold I64 wrap64
  omega
theorem prV_two (o : Option Bs) : ∃ s n, prV o = .tuple #[.string s, .int .i64 n] := by
  cases o with
  | none => exact ⟨_, _, rfl⟩
  | some l => exact ⟨_, _, rfl⟩
theorem print_at (c : Cmd) (l : Bs) (q : List Int) (n m : Nat) (hn : l.length = n) (hm : q.length = m) (A : Option Addr) (a : Nat) (P : Option Addr) (p : Nat) (w : World) (ht : Tab w) (hu : Use w) (hI : cmdI { c with raw := l, picks := q }) (hr : BytesAt w w.heap.size A l) (hp : IntsAt w w.heap.size P q) :
    Calls Tryz.prog 9 #[.agg (cmdC c (.slice A n a) (.slice P m p))] w fun e w' => e = .returned (prV (printL { c with raw := l, picks := q })) ∧ Below w.heap.size w w' := by
  subst hn
  subst hm
  exact print_any { c with raw := l, picks := q } A a P p w ht hu hI hr hp
theorem cmdI_with {c : Cmd} (h : cmdI c) {l : Bs} {q : List Int} (hl : l.length = c.raw.length) (hq : q.length = c.picks.length) (hi : ∀ x ∈ q, I64 x) : cmdI { c with raw := l, picks := q } := by
  obtain ⟨h0, h1, h2, h3, h4, h5, h6, h7, h8, h9, h10, h11⟩ := h
  exact ⟨h0, h1, h2, h3, h4, h5, hi, h7, h8, h9, by show l.length ≤ _; rw [hl]; exact h10, by show q.length ≤ _; rw [hq]; exact h11⟩
theorem at_qv {P : Program} {ops : Array Oper} {C : World → Prop} {Q : Act → Prop} {rest : List Oper} {a : Act} (o : Oper) (h : wpQuiet P ops C Q (o :: rest) a) : wpQuiet P ops C Q (o :: rest) a := h

set_option maxRecDepth 100000 in
set_option maxHeartbeats 8000000 in
theorem prints_any (c : Cmd) (A : Option Addr) (a : Nat) (P : Option Addr) (p : Nat) (w : World) (ht : Tab w) (hu : Use w) (hI : cmdI c) (hr : BytesAt w w.heap.size A c.raw) (hp : IntsAt w w.heap.size P c.picks) :
    Calls Tryz.prog 3 #[.agg (cmdC c (.slice A c.raw.length a) (.slice P c.picks.length p))] w fun e w' => e = .returned (.bool true) ∧ Below w.heap.size w w' := by
  have hT0 := Blk.new w 28 (cmdC c (.slice A c.raw.length a) (.slice P c.picks.length p))
  have hB0 : Below w.heap.size w (w.alloc (.cells (cmdC c (.slice A c.raw.length a) (.slice P c.picks.length p)) 28)) := (Below.refl _ _).alloc (Nat.le_refl _) _
  have HI := Lib.hid hI
  have HR := Lib.hid hr
  have HP := Lib.hid hp
  have HTB := Lib.hid ht
  have HU := Lib.hid hu
  clear ht hu hI hr hp
  have hl0 : c.raw.length ≤ 1048576 := HI.out.2.2.2.2.2.2.2.2.2.2.1
  have hl1 : c.picks.length ≤ 1048576 := HI.out.2.2.2.2.2.2.2.2.2.2.2
  have HL0 := Lib.hid hl0
  have HL1 := Lib.hid hl1
  generalize hcs : cmdC c (.slice A c.raw.length a) (.slice P c.picks.length p) = cs at hT0 hB0 ⊢
  have HCS := Lib.hid hcs
  clear hcs
  go_enter Tryz.func3, Tryz.ntmps3
  go_upto_region 1 with fail
  generalize hw0 : w.alloc _ = w0 at hT0 hB0 ⊢
  have HT0 : Hid (Blk w0 w.heap.size 28 (cmdC c (.slice A c.raw.length a) (.slice P c.picks.length p))) := Lib.hid (by rw [HCS.out]; exact hT0)
  have HB0 := Lib.hid hB0
  clear hw0 hT0 hB0 HCS
  go_wp2_with (first
    | ((with_reducible refine at_op ⟨_, .load 28 (.tmp 1), _, _, _, _⟩ ?_); refine wpList_load_list rfl 28 (.tmp 1) rfl ⟨w.heap.size, 0, none⟩ rfl (cmdL c (.slice A c.raw.length a) (.slice P c.picks.length p)) (cmd_load HT0.out) _ Tryz.underlying28 rfl (by kernel_rfl) ?_)
    | fail)
  refine (copied_any c A a P p w0 (HR.out.up HB0.out) (HP.out.up HB0.out) HL0.out HL1.out).mono ?_
  rintro e w1 ⟨bR, kR, bP, kP, rfl, hb1, hbR, hbP, hkR, -, hkP, -, hr1, hp1⟩
  have HB1 : Hid (Below w.heap.size w w1) := HB0.out.trans (hb1.mono HB0.out.size)
  have HT1 := Lib.hid (HT0.out.below hb1 HT0.out.lt)
  have HR1 := Lib.hid hr1
  have HP1 := Lib.hid hp1
  have HKR := Lib.hid hkR
  have HKP := Lib.hid hkP
  have hw0 : w.heap.size + 1 ≤ w0.heap.size := HT0.out.lt
  have HBR : Hid (w.heap.size < bR) := Lib.hid (by omega)
  have HBP : Hid (w.heap.size < bP) := Lib.hid (by omega)
  have HSZ1 : Hid (w.heap.size < w1.heap.size) := Lib.hid HT1.out.lt
  clear hb1 hr1 hp1 hkR hkP hbR hbP hw0 HT0 HB0
  go_upto_region 2 with (first
    | ((with_reducible refine at_op ⟨_, .store 28 (.tmp 3) (.tmp 13), _, _, _, _⟩ ?_); refine wpList_store_blk rfl 28 (.tmp 3) (.tmp 13) rfl w1.heap.size 0 rfl (cmdL c (.slice (some ⟨bR, 0, none⟩) c.raw.length kR) (.slice (some ⟨bP, 0, none⟩) c.picks.length kP)) rfl (cmdL_one _ _ _ rfl rfl) 28 zCmd (Blk.new w1 28 zCmd) (show 0 + 14 ≤ 14 from Nat.le_refl 14) (by kernel_rfl) ?_; rw [putAll _ _ _ _ rfl]; intro w2 hT2 hg2 hs2; have HT2 := Lib.hid hT2; have HG2 := Lib.hid hg2; have HS2 := Lib.hid hs2; clear hT2 hg2 hs2)
    | fail)
  have HPp : Hid (Pp c A a P p w w2 w1.heap.size bR kR bP kP (byteCells c.raw) (intV c.picks)) := Lib.hid (by
    obtain ⟨cs1, r1, r2⟩ := HR1.out
    obtain ⟨cs2, p1, p2⟩ := HP1.out
    have l1 := HSZ1.out
    have lr : bR < w1.heap.size := r1.lt
    have lp : bP < w1.heap.size := p1.lt
    have lowb := below_gb (HB1.out.alloc HB1.out.size (.cells zCmd 28)) HG2.out (le_alloc _ HB1.out.size) HB1.out.size
    exact ⟨lowb, (HT1.out.alloc _).gb HG2.out (by omega), HT2.out, l1, HBR.out, HBP.out, ⟨cs1, (r1.alloc _).gb HG2.out (by omega), r2⟩, ⟨cs2, (p1.alloc _).gb HG2.out (by omega), p2⟩⟩)
  clear HR1 HP1 HT1 HT2 HG2 HS2 HB1 HSZ1
  obtain ⟨h, hh⟩ : ∃ h, h = w1.heap.size := ⟨_, rfl⟩
  rw [← hh] at HPp ⊢
  clear hh
  obtain ⟨rl, hrl⟩ : ∃ n, c.raw.length = n := ⟨_, rfl⟩
  obtain ⟨pl, hpl⟩ : ∃ n, c.picks.length = n := ⟨_, rfl⟩
  rw [hrl] at hl0
  rw [hpl] at hl1
  have HRL := Lib.hid hrl
  have HPL := Lib.hid hpl
  have C11 : Hid (∀ wr xs ys, Pp c A a P p w wr h bR kR bP kP xs ys → wr.cell? ⟨h, 11, none⟩ = some (.slice (some ⟨bR, 0, none⟩) rl kR)) := Lib.hid fun wr xs ys hp => by rw [← hrl]; exact hp.cpy.cell 11
  have C13 : Hid (∀ wr xs ys, Pp c A a P p w wr h bR kR bP kP xs ys → wr.cell? ⟨h, 13, none⟩ = some (.slice (some ⟨bP, 0, none⟩) pl kP)) := Lib.hid fun wr xs ys hp => by rw [← hpl]; exact hp.cpy.cell 13
  have B11 : Hid (∀ wr xs ys, Pp c A a P p w wr h bR kR bP kP xs ys → wr.cell? ⟨w.heap.size, 11, none⟩ = some (.slice A rl a)) := Lib.hid fun wr xs ys hp => by rw [← hrl]; exact hp.box.cell 11
  have B13 : Hid (∀ wr xs ys, Pp c A a P p w wr h bR kR bP kP xs ys → wr.cell? ⟨w.heap.size, 13, none⟩ = some (.slice P pl p)) := Lib.hid fun wr xs ys hp => by rw [← hpl]; exact hp.box.cell 13
  clear hrl hpl
  go_wp2_with fail
  go_loopw [4] (fun i wr => ∃ (j : Nat) (l : Bs), j ≤ rl ∧ i = .int .i64 (j : Int) ∧ Hid (l.length = rl) ∧ Hid (Pp c A a P p w wr h bR kR bP kP (byteCells l) (intV c.picks))) (fun i _ => rl - (intOf i).toNat)
  case atStart => exact ⟨0, c.raw, Nat.zero_le _, rfl, HRL, HPp⟩
  case round =>
    clear HPp
    obtain ⟨j, l, hj, rfl, HLL, HPp⟩ := hrel
    have u11 := C11.out wr _ _ HPp.out
    by_cases hlt : j < rl
    · obtain ⟨cs1, r1, r2⟩ := HPp.out.raws
      have hlA : j < l.length := by rw [HLL.out]; exact hlt
      obtain ⟨x, hx⟩ : ∃ x, l[j] = x := ⟨_, rfl⟩
      have hcj : (byteCells l)[j]? = some (.int .u8 (x.toNat : Int)) := by simp only [byteCells, List.getElem?_map, List.getElem?_eq_getElem hlA, hx, Option.map_some]
      have k0 := cell_regrown u11
      have k1 := cell_regrown (show wr.cell? ⟨bR, j, none⟩ = some (.int .u8 (x.toNat : Int)) from (r1.cell j).trans (r2 j _ (by rw [List.getElem?_append_left (by rw [byteCells_len]; exact hlA)]; exact hcj)))
      clear hx hcj r1 r2
      go_upto_region 5 with fail
      refine wp_quiet_tail 10 (by kernel_rfl) (by kernel_rfl) (by kernel_rfl) ?_
      simp only [List.take_succ_cons, List.take_zero, List.drop_succ_cons, List.drop_zero]
      repeat (first | go_big_quiet_skip | (go_big_quiet_want; go_big_quiet_op; go_big_quiet_on))
      refine wpQuiet_nil ?_
      intro wq hw'
      obtain ⟨⟨dq, osq⟩, hw''⟩ := hw'
      have HPq := Lib.hid (HPp.out.below (w' := wq) (by rw [hw'']; exact below_regrown wr dq osq))
      clear hw'' k0 k1 u11 HPp
      obtain ⟨y, hy⟩ := xor255 x
      rw [hy]
      obtain ⟨cs2, r1, r2⟩ := HPq.out.raws
      have hjl : j < (byteCells l ++ [Value.int .u8 77]).length := by rw [List.length_append, byteCells_len]; omega
      have HC1 := Lib.hid r1
      have HC2 := Lib.hid r2
      have HC3 : Hid (j + 1 ≤ cs2.size) := r2.lt hjl
      have HJL := Lib.hid hjl
      have HST : Hid ((byteCells l ++ [Value.int .u8 77]).set j (.int .u8 (y.toNat : Int)) = byteCells (l.set j y) ++ [Value.int .u8 77]) := Lib.hid (by rw [List.set_append_left _ _ (by rw [byteCells_len]; exact hlA), byteCells_set])
      clear r1 r2 hjl hy
      go_wp2_with (first
        | ((with_reducible refine at_op ⟨_, .store 5 (.tmp 30) (.tmp 29), _, _, _, _⟩ ?_); refine wpList_store_one rfl 5 (.tmp 30) (.tmp 29) rfl bR j rfl (.int .u8 (y.toNat : Int)) rfl rfl rfl 5 cs2 HC1.out HC3.out (by kernel_rfl) ?_; intro w13 hT13 hg13 hs13; have HP13 := Lib.hid (HPq.out.setR hT13 (by rw [← HST.out]; exact HC2.out.put HJL.out _) hg13); clear hT13 hg13 hs13)
        | fail)
      clear HPq HC1 HC2 HC3 HJL HST
      go_roundw
      case rel => exact ⟨j + 1, l.set j y, by omega, by go_num, Lib.hid (by rw [List.length_set]; exact HLL.out), HP13⟩
      case measure => simp [intOf]; omega
    · obtain rfl : rl = j := by omega
      go_wp2_with fail
      clear u11
      obtain ⟨w3, hw3⟩ : ∃ x : World, x = wr := ⟨_, rfl⟩
      rw [← hw3] at HPp ⊢
      clear hw3
      go_loopw [5] (fun i wr => ∃ (j : Nat) (q : List Int), j ≤ pl ∧ i = .int .i64 (j : Int) ∧ Hid (q.length = pl ∧ ∀ x ∈ q, I64 x) ∧ Hid (Pp c A a P p w wr h bR kR bP kP (byteCells l) (intV q))) (fun i _ => pl - (intOf i).toNat)
      case atStart => exact ⟨0, c.picks, Nat.zero_le _, rfl, Lib.hid ⟨HPL.out, HI.out.2.2.2.2.2.2.1⟩, HPp⟩
      case round =>
        clear HPp
        obtain ⟨j, q, hj, rfl, HQL, HPp⟩ := hrel
        have u13 := C13.out wr _ _ HPp.out
        by_cases hlt : j < pl
        · obtain ⟨cs1, r1, r2⟩ := HPp.out.picks
          have hlA : j < q.length := by rw [HQL.out.1]; exact hlt
          obtain ⟨x, hx⟩ : ∃ x, q[j] = x := ⟨_, rfl⟩
          have hcj : (intV q)[j]? = some (.int .i64 x) := by simp only [intV, List.getElem?_map, List.getElem?_eq_getElem hlA, hx, Option.map_some]
          have k0 := cell_regrown u13
          have k1 := cell_regrown (show wr.cell? ⟨bP, j, none⟩ = some (.int .i64 x) from (r1.cell j).trans (r2 j _ (by rw [List.getElem?_append_left (by rw [intV_len]; exact hlA)]; exact hcj)))
          clear hx hcj r1 r2
          go_upto_region 9 with fail
          refine wp_quiet_tail 10 (by kernel_rfl) (by kernel_rfl) (by kernel_rfl) ?_
          simp only [List.take_succ_cons, List.take_zero, List.drop_succ_cons, List.drop_zero]
          repeat (first | go_big_quiet_skip | (go_big_quiet_want; go_big_quiet_op; go_big_quiet_on))
          refine wpQuiet_nil ?_
          intro wq hw'
          obtain ⟨⟨dq, osq⟩, hw''⟩ := hw'
          have HPq := Lib.hid (HPp.out.below (w' := wq) (by rw [hw'']; exact below_regrown wr dq osq))
          clear hw'' k0 k1 u13 HPp
          obtain ⟨y, hy, hyI⟩ : ∃ y, wrap64 (x + 1) = y ∧ I64 y := ⟨_, rfl, wrap_ok _⟩
          rw [hy]
          obtain ⟨cs2, r1, r2⟩ := HPq.out.picks
          have hjl : j < (intV q ++ [Value.int .i64 (-77)]).length := by rw [List.length_append, intV_len]; omega
          have HC1 := Lib.hid r1
          have HC2 := Lib.hid r2
          have HC3 : Hid (j + 1 ≤ cs2.size) := r2.lt hjl
          have HJL := Lib.hid hjl
          have HST : Hid ((intV q ++ [Value.int .i64 (-77)]).set j (.int .i64 y) = intV (q.set j y) ++ [Value.int .i64 (-77)]) := Lib.hid (by rw [List.set_append_left _ _ (by rw [intV_len]; exact hlA), intV_set])
          have HYI := Lib.hid hyI
          clear r1 r2 hjl hy hyI
          go_wp2_with (first
            | ((with_reducible refine at_op ⟨_, .store 3 (.tmp 47) (.tmp 46), _, _, _, _⟩ ?_); refine wpList_store_one rfl 3 (.tmp 47) (.tmp 46) rfl bP j rfl (.int .i64 y) rfl rfl rfl 3 cs2 HC1.out HC3.out (by kernel_rfl) ?_; intro w13 hT13 hg13 hs13; have HP13 := Lib.hid (HPq.out.setP hT13 (by rw [← HST.out]; exact HC2.out.put HJL.out _) hg13); clear hT13 hg13 hs13)
            | fail)
          clear HPq HC1 HC2 HC3 HJL HST
          go_roundw
          case rel => exact ⟨j + 1, q.set j y, by omega, by go_num, Lib.hid ⟨by rw [List.length_set]; exact HQL.out.1, fun z hz => (List.mem_or_eq_of_mem_set hz).elim (HQL.out.2 z) (fun e => by rw [e]; exact HYI.out)⟩, HP13⟩
          case measure => simp [intOf]; omega
        · obtain rfl : pl = j := by omega
          go_upto_region 10 with fail
          clear u13 hlt
          obtain ⟨w3, hw3⟩ : ∃ x : World, x = wr := ⟨_, rfl⟩
          rw [← hw3] at HPp ⊢
          clear hw3
          have HRr : Hid (BytesAt w3 w3.heap.size (some ⟨bR, 0, none⟩) l) := Lib.hid (by obtain ⟨cs1, r1, r2⟩ := HPp.out.raws; exact bytes_has r1 r2)
          have HPr : Hid (IntsAt w3 w3.heap.size (some ⟨bP, 0, none⟩) q) := Lib.hid (by obtain ⟨cs1, r1, r2⟩ := HPp.out.picks; exact ints_has r1 r2)
          go_wp2_with (first
            | ((with_reducible refine at_op ⟨_, .load 28 (.tmp 3), _, _, _, _⟩ ?_); refine wpList_load_list rfl 28 (.tmp 3) rfl ⟨h, 0, none⟩ rfl (cmdL c (.slice (some ⟨bR, 0, none⟩) c.raw.length kR) (.slice (some ⟨bP, 0, none⟩) c.picks.length kP)) (cmd_load HPp.out.cpy) _ Tryz.underlying28 rfl (by kernel_rfl) ?_)
            | fail)
          refine (print_at c l q c.raw.length c.picks.length (HLL.out.trans HRL.out.symm) (HQL.out.1.trans HPL.out.symm) (some ⟨bR, 0, none⟩) kR (some ⟨bP, 0, none⟩) kP w3 (tab_below HTB.out HPp.out.low) (use_below HU.out HPp.out.low) (cmdI_with HI.out (HLL.out.trans HRL.out.symm) (HQL.out.1.trans HPL.out.symm) HQL.out.2) HRr.out HPr.out).mono ?_
          rintro e w4 ⟨rfl, hb4⟩
          have HP4 := Lib.hid (HPp.out.below hb4)
          clear hb4 HRr HPr HPp
          obtain ⟨sv, nv, hpv⟩ := prV_two (printL { c with raw := l, picks := q })
          rw [hpv]
          clear hpv
          go_wp2_with fail
          go_loopw [6] (fun i wr => ∃ (j : Nat), j ≤ rl ∧ i = .int .i64 (j : Int) ∧ Hid (Pp c A a P p w wr h bR kR bP kP (byteCells (mixV c.raw l j)) (intV q))) (fun i _ => rl - (intOf i).toNat)
          case atStart => exact ⟨0, Nat.zero_le _, rfl, Lib.hid (by rw [mixV_zero]; exact HP4.out)⟩
          case round =>
            clear HP4
            obtain ⟨j, hj, rfl, HPp⟩ := hrel
            have u11 := C11.out wr _ _ HPp.out
            have v11 := B11.out wr _ _ HPp.out
            have HLM : Hid (l.length = c.raw.length) := Lib.hid (HLL.out.trans HRL.out.symm)
            by_cases hlt : j < rl
            · have hlA : j < c.raw.length := by rw [HRL.out]; exact hlt
              obtain ⟨b, off, rfl, hb, hcl⟩ := HR.out (by intro e; rw [e] at hlA; simp at hlA)
              obtain ⟨x, hx⟩ : ∃ x, c.raw[j] = x := ⟨_, rfl⟩
              have k0 := cell_regrown u11
              have k1 := cell_regrown v11
              have k2 := cell_regrown ((HPp.out.low.cell (p := ⟨b, off + j, none⟩) hb).trans (hcl j x (by rw [← hx]; exact List.getElem?_eq_getElem hlA)))
              have HX := Lib.hid hx
              have HXA := Lib.hid hlA
              clear hcl hb
              go_upto_region 14 with fail
              refine wp_quiet_tail 9 (by kernel_rfl) (by kernel_rfl) (by kernel_rfl) ?_
              simp only [List.take_succ_cons, List.take_zero, List.drop_succ_cons, List.drop_zero]
              repeat (first | go_big_quiet_skip | (go_big_quiet_want; go_big_quiet_op; go_big_quiet_on))
              refine wpQuiet_nil ?_
              intro wq hw'
              obtain ⟨⟨dq, osq⟩, hw''⟩ := hw'
              have HPq := Lib.hid (HPp.out.below (w' := wq) (by rw [hw'']; exact below_regrown wr dq osq))
              clear hw'' k0 k1 k2 u11 v11 HPp
              obtain ⟨cs2, r1, r2⟩ := HPq.out.raws
              have hjl : j < (byteCells (mixV c.raw l j) ++ [Value.int .u8 77]).length := by rw [List.length_append, byteCells_len, mixV_len _ _ HLM.out (by have := HXA.out; omega)]; have := HXA.out; omega
              have HC1 := Lib.hid r1
              have HC2 := Lib.hid r2
              have HC3 : Hid (j + 1 ≤ cs2.size) := r2.lt hjl
              have HJL := Lib.hid hjl
              have HST : Hid ((byteCells (mixV c.raw l j) ++ [Value.int .u8 77]).set j (.int .u8 (x.toNat : Int)) = byteCells (mixV c.raw l (j + 1)) ++ [Value.int .u8 77]) := Lib.hid (by
                rw [List.set_append_left _ _ (by rw [byteCells_len, mixV_len _ _ HLM.out (by have := HXA.out; omega)]; exact HXA.out), byteCells_set, ← HX.out, mixV_set _ _ HLM.out HXA.out])
              clear r1 r2 hjl
              go_wp2_with (first
                | ((with_reducible refine at_op ⟨_, .store 5 (.tmp 65) (.tmp 64), _, _, _, _⟩ ?_); refine wpList_store_one rfl 5 (.tmp 65) (.tmp 64) rfl bR j rfl (.int .u8 (x.toNat : Int)) rfl rfl rfl 5 cs2 HC1.out HC3.out (by kernel_rfl) ?_; intro w13 hT13 hg13 hs13; have HP13 := Lib.hid (HPq.out.setR hT13 (by rw [← HST.out]; exact HC2.out.put HJL.out _) hg13); clear hT13 hg13 hs13)
                | fail)
              clear HPq HC1 HC2 HC3 HJL HST HX HXA
              go_roundw
              case rel => exact ⟨j + 1, by omega, by go_num, HP13⟩
              case measure => simp [intOf]; omega
            · have HPa : Hid (Pp c A a P p w wr h bR kR bP kP (byteCells c.raw) (intV q)) := Lib.hid (by
                have hjr : j = c.raw.length := by rw [HRL.out]; omega
                have := HPp.out
                rw [hjr, mixV_full _ _ HLM.out] at this
                exact this)
              clear HPp v11
              go_wp2_with fail
              clear u11 hlt
              obtain ⟨w3, hw3⟩ : ∃ x : World, x = wr := ⟨_, rfl⟩
              rw [← hw3] at HPa ⊢
              clear hw3
              have HQM : Hid (q.length = c.picks.length) := Lib.hid (HQL.out.1.trans HPL.out.symm)
              go_loopw [7] (fun i wr => ∃ (j : Nat), j ≤ pl ∧ i = .int .i64 (j : Int) ∧ Hid (Pp c A a P p w wr h bR kR bP kP (byteCells c.raw) (intV (mixV c.picks q j)))) (fun i _ => pl - (intOf i).toNat)
              case atStart => exact ⟨0, Nat.zero_le _, rfl, Lib.hid (by rw [mixV_zero]; exact HPa.out)⟩
              case round =>
                clear HPa
                obtain ⟨j, hj, rfl, HPp⟩ := hrel
                have u13 := C13.out wr _ _ HPp.out
                have v13 := B13.out wr _ _ HPp.out
                by_cases hlt : j < pl
                · have hlA : j < c.picks.length := by rw [HPL.out]; exact hlt
                  obtain ⟨b, off, rfl, hb, hcl⟩ := HP.out (by intro e; rw [e] at hlA; simp at hlA)
                  obtain ⟨x, hx⟩ : ∃ x, c.picks[j] = x := ⟨_, rfl⟩
                  have k0 := cell_regrown u13
                  have k1 := cell_regrown v13
                  have k2 := cell_regrown ((HPp.out.low.cell (p := ⟨b, off + j, none⟩) hb).trans (hcl j x (by rw [← hx]; exact List.getElem?_eq_getElem hlA)))
                  have HX := Lib.hid hx
                  have HXA := Lib.hid hlA
                  clear hcl hb
                  go_upto_region 18 with fail
                  refine wp_quiet_tail 9 (by kernel_rfl) (by kernel_rfl) (by kernel_rfl) ?_
                  simp only [List.take_succ_cons, List.take_zero, List.drop_succ_cons, List.drop_zero]
                  repeat (first | go_big_quiet_skip | (go_big_quiet_want; go_big_quiet_op; go_big_quiet_on))
                  refine wpQuiet_nil ?_
                  intro wq hw'
                  obtain ⟨⟨dq, osq⟩, hw''⟩ := hw'
                  have HPq := Lib.hid (HPp.out.below (w' := wq) (by rw [hw'']; exact below_regrown wr dq osq))
                  clear hw'' k0 k1 k2 u13 v13 HPp
                  obtain ⟨cs2, r1, r2⟩ := HPq.out.picks
                  have hjl : j < (intV (mixV c.picks q j) ++ [Value.int .i64 (-77)]).length := by rw [List.length_append, intV_len, mixV_len _ _ HQM.out (by have := HXA.out; omega)]; have := HXA.out; omega
                  have HC1 := Lib.hid r1
                  have HC2 := Lib.hid r2
                  have HC3 : Hid (j + 1 ≤ cs2.size) := r2.lt hjl
                  have HJL := Lib.hid hjl
                  have HST : Hid ((intV (mixV c.picks q j) ++ [Value.int .i64 (-77)]).set j (.int .i64 x) = intV (mixV c.picks q (j + 1)) ++ [Value.int .i64 (-77)]) := Lib.hid (by
                    rw [List.set_append_left _ _ (by rw [intV_len, mixV_len _ _ HQM.out (by have := HXA.out; omega)]; exact HXA.out), intV_set, ← HX.out, mixV_set _ _ HQM.out HXA.out])
                  clear r1 r2 hjl
                  go_wp2_with (first
                    | ((with_reducible refine at_op ⟨_, .store 3 (.tmp 81) (.tmp 80), _, _, _, _⟩ ?_); refine wpList_store_one rfl 3 (.tmp 81) (.tmp 80) rfl bP j rfl (.int .i64 x) rfl rfl rfl 3 cs2 HC1.out HC3.out (by kernel_rfl) ?_; intro w13 hT13 hg13 hs13; have HP13 := Lib.hid (HPq.out.setP hT13 (by rw [← HST.out]; exact HC2.out.put HJL.out _) hg13); clear hT13 hg13 hs13)
                    | fail)
                  clear HPq HC1 HC2 HC3 HJL HST HX HXA
                  go_roundw
                  case rel => exact ⟨j + 1, by omega, by go_num, HP13⟩
                  case measure => simp [intOf]; omega
                · have HPa : Hid (Pp c A a P p w wr h bR kR bP kP (byteCells c.raw) (intV c.picks)) := Lib.hid (by
                    have hjr : j = c.picks.length := by rw [HPL.out]; omega
                    have := HPp.out
                    rw [hjr, mixV_full _ _ HQM.out] at this
                    exact this)
                  clear HPp v13
                  go_upto_region 19 with fail
                  clear u13 hlt
                  obtain ⟨w5, hw5⟩ : ∃ x : World, x = wr := ⟨_, rfl⟩
                  rw [← hw5] at HPa ⊢
                  clear hw5
                  have HRr : Hid (BytesAt w5 w5.heap.size (some ⟨bR, 0, none⟩) c.raw) := Lib.hid (by obtain ⟨cs1, r1, r2⟩ := HPa.out.raws; exact bytes_has r1 r2)
                  have HPr : Hid (IntsAt w5 w5.heap.size (some ⟨bP, 0, none⟩) c.picks) := Lib.hid (by obtain ⟨cs1, r1, r2⟩ := HPa.out.picks; exact ints_has r1 r2)
                  obtain ⟨sp, np, hpp⟩ := prV_two (printL c)
                  have HPP := Lib.hid hpp
                  clear hpp
                  go_wp2_with (first
                    | ((with_reducible refine at_op ⟨_, .load 28 (.tmp 3), _, _, _, _⟩ ?_); refine wpList_load_list rfl 28 (.tmp 3) rfl ⟨h, 0, none⟩ rfl (cmdL c (.slice (some ⟨bR, 0, none⟩) c.raw.length kR) (.slice (some ⟨bP, 0, none⟩) c.picks.length kP)) (cmd_load HPa.out.cpy) _ Tryz.underlying28 rfl (by kernel_rfl) ?_)
                    | fail)
                  refine (print_any c (some ⟨bR, 0, none⟩) kR (some ⟨bP, 0, none⟩) kP w5 (tab_below HTB.out HPa.out.low) (use_below HU.out HPa.out.low) HI.out HRr.out HPr.out).mono ?_
                  rintro e w6 ⟨rfl, hb6⟩
                  rw [HPP.out]
                  have HP6 := Lib.hid (HPa.out.below hb6)
                  clear hb6 HRr HPr HPa
                  go_wp2_with (first
                    | ((with_reducible refine at_op ⟨_, .load 28 (.tmp 1), _, _, _, _⟩ ?_); refine wpList_load_list rfl 28 (.tmp 1) rfl ⟨w.heap.size, 0, none⟩ rfl (cmdL c (.slice A c.raw.length a) (.slice P c.picks.length p)) (cmd_load HP6.out.box) _ Tryz.underlying28 rfl (by kernel_rfl) ?_)
                    | fail)
                  refine (rprint_any c A a P p w6 HI.out (HR.out.up HP6.out.low) (HP.out.up HP6.out.low)).mono ?_
                  rintro e w7 ⟨rfl, hb7⟩
                  rw [HPP.out]
                  have HP7 := Lib.hid (HP6.out.below hb7)
                  clear hb7 HP6
                  have q0 : w7.cell? ⟨w.heap.size, 0, none⟩ = some (.int .i64 c.verb) := HP7.out.box.cell 0
                  have t0 : w7.cell? ⟨h, 0, none⟩ = some (.int .i64 c.verb) := HP7.out.cpy.cell 0
                  have q1 : w7.cell? ⟨w.heap.size, 1, none⟩ = some (.int .i64 c.conn) := HP7.out.box.cell 1
                  have t1 : w7.cell? ⟨h, 1, none⟩ = some (.int .i64 c.conn) := HP7.out.cpy.cell 1
                  have q2 : w7.cell? ⟨w.heap.size, 2, none⟩ = some (.int .u32 c.req.id) := HP7.out.box.cell 2
                  have t2 : w7.cell? ⟨h, 2, none⟩ = some (.int .u32 c.req.id) := HP7.out.cpy.cell 2
                  have q3 : w7.cell? ⟨w.heap.size, 3, none⟩ = some (.int .i64 c.req.op) := HP7.out.box.cell 3
                  have t3 : w7.cell? ⟨h, 3, none⟩ = some (.int .i64 c.req.op) := HP7.out.cpy.cell 3
                  have q4 : w7.cell? ⟨w.heap.size, 4, none⟩ = some (.string (S c.req.topic)) := HP7.out.box.cell 4
                  have t4 : w7.cell? ⟨h, 4, none⟩ = some (.string (S c.req.topic)) := HP7.out.cpy.cell 4
                  have q5 : w7.cell? ⟨w.heap.size, 5, none⟩ = some (.string (S c.req.key)) := HP7.out.box.cell 5
                  have t5 : w7.cell? ⟨h, 5, none⟩ = some (.string (S c.req.key)) := HP7.out.cpy.cell 5
                  have q6 : w7.cell? ⟨w.heap.size, 6, none⟩ = some (.string (S c.req.value)) := HP7.out.box.cell 6
                  have t6 : w7.cell? ⟨h, 6, none⟩ = some (.string (S c.req.value)) := HP7.out.cpy.cell 6
                  have q7 : w7.cell? ⟨w.heap.size, 7, none⟩ = some (.int .i64 c.req.off) := HP7.out.box.cell 7
                  have t7 : w7.cell? ⟨h, 7, none⟩ = some (.int .i64 c.req.off) := HP7.out.cpy.cell 7
                  have q8 : w7.cell? ⟨w.heap.size, 8, none⟩ = some (.int .i64 c.req.num) := HP7.out.box.cell 8
                  have t8 : w7.cell? ⟨h, 8, none⟩ = some (.int .i64 c.req.num) := HP7.out.cpy.cell 8
                  have q9 : w7.cell? ⟨w.heap.size, 9, none⟩ = some (.int .i64 c.req.pid) := HP7.out.box.cell 9
                  have t9 : w7.cell? ⟨h, 9, none⟩ = some (.int .i64 c.req.pid) := HP7.out.cpy.cell 9
                  have q10 : w7.cell? ⟨w.heap.size, 10, none⟩ = some (.int .i64 c.req.seq) := HP7.out.box.cell 10
                  have t10 : w7.cell? ⟨h, 10, none⟩ = some (.int .i64 c.req.seq) := HP7.out.cpy.cell 10
                  have q11 : w7.cell? ⟨w.heap.size, 11, none⟩ = some (.slice A c.raw.length a) := HP7.out.box.cell 11
                  have t11 : w7.cell? ⟨h, 11, none⟩ = some (.slice (some ⟨bR, 0, none⟩) c.raw.length kR) := HP7.out.cpy.cell 11
                  have q12 : w7.cell? ⟨w.heap.size, 12, none⟩ = some (.int .i64 c.n) := HP7.out.box.cell 12
                  have t12 : w7.cell? ⟨h, 12, none⟩ = some (.int .i64 c.n) := HP7.out.cpy.cell 12
                  have q13 : w7.cell? ⟨w.heap.size, 13, none⟩ = some (.slice P c.picks.length p) := HP7.out.box.cell 13
                  have t13 : w7.cell? ⟨h, 13, none⟩ = some (.slice (some ⟨bP, 0, none⟩) c.picks.length kP) := HP7.out.cpy.cell 13
                  go_wp2_with fail
                  obtain ⟨cs1, r1, r2⟩ := HP7.out.raws
                  obtain ⟨cs2, p1, p2⟩ := HP7.out.picks
                  refine (kept_any c A a P p bR kR bP kP w7 (HR.out.up HP7.out.low) (HP.out.up HP7.out.low) HL0.out HL1.out HKR.out HKP.out (bytes_has r1 r2) (ints_has p1 p2) r1.lt p1.lt ((r1.cell _).trans (r2 _ _ (by rw [List.getElem?_append_right (by rw [byteCells_len]; exact Nat.le_refl _), byteCells_len, Nat.sub_self]; rfl))) ((p1.cell _).trans (p2 _ _ (by rw [List.getElem?_append_right (by rw [intV_len]; exact Nat.le_refl _), intV_len, Nat.sub_self]; rfl)))).mono ?_
                  rintro e w8 ⟨rfl, hb8⟩
                  have HP8 := Lib.hid (HP7.out.below hb8)
                  clear hb8 HP7 r1 r2 p1 p2 q0 t0 q1 t1 q2 t2 q3 t3 q4 t4 q5 t5 q6 t6 q7 t7 q8 t8 q9 t9 q10 t10 q11 t11 q12 t12 q13 t13
                  go_wp2_with fail
                  go_ret
                  exact ⟨rfl, HP8.out.low⟩
end Go.Proofs.YtepalbldleegiaaGreatDoor.sh
