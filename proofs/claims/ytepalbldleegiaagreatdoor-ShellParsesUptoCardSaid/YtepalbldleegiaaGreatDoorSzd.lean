/-
  The program's look at a request: walked.
  Conditions: numbers as their types have them; the table of uses is as it was laid.
-/
import Derived.Test.YtepalbldleegiaaGreatDoorSza
namespace Go.Proofs.YtepalbldleegiaaGreatDoor.sh
open Go.RowKit
open Go.Lib (itoa decDigits byteCells)

def bitsN : Nat → Int
  | 2 => 17
  | 3 => 1
  | 4 => 2
  | 5 => 103
  | 6 => 99
  | 7 => 3
  | 8 => 9
  | 9 => 3
  | 10 => 9
  | 11 => 16
  | 12 => 2
  | 13 => 27
  | 14 => 3
  | 15 => 1
  | _ => 0
def fbit : Fd → Int
  | .T => 1
  | .K => 2
  | .V => 4
  | .O => 8
  | .N => 16
  | .P => 32
  | .S => 64
theorem and_bits (i : Nat) (hi : i < 16) (f : Fd) : bits BinOp.and IntKind.i64 (bitsN i) (fbit f) = if (fieldsN i).contains f then fbit f else 0 := by
  have h : ∀ i : Fin 16, bits BinOp.and IntKind.i64 (bitsN i.val) (fbit f) = if (fieldsN i.val).contains f then fbit f else 0 := by
    cases f <;> decide
  exact h ⟨i, hi⟩
theorem fbit_ne (f : Fd) : fbit f ≠ 0 := by cases f <;> decide
theorem fbit_ok (f : Fd) : 1 ≤ fbit f ∧ fbit f ≤ 64 := by cases f <;> decide
/-- the table of uses as it was laid -/
def Use (w : World) : Prop := 1 < w.heap.size ∧ ∀ i, i < 16 → w.cell? ⟨1, i, none⟩ = some (.int .i64 (bitsN i))
theorem use_below {w w' : World} (h : Use w) (hb : Below w.heap.size w w') : Use w' :=
  ⟨Nat.lt_of_lt_of_le h.1 hb.size, fun i hi => (hb.cell (p := ⟨1, i, none⟩) h.1).trans (h.2 i hi)⟩
theorem isOp_any (op : Int) (w : World) : Calls Tryz.prog 82 #[.int .i64 op] w fun e w' => e = .returned (.bool (decide (1 ≤ op ∧ op ≤ 15))) ∧ w = w' := by
  by_cases h0 : 1 ≤ op
  · by_cases h1 : op < 16
    · rw [decide_eq_true (by omega)]
      go_enter Tryz.func82, Tryz.ntmps82
      go_wp2_with fail
      go_ret
      exact ⟨ret_bool (by simp), rfl⟩
    · rw [decide_eq_false (by omega)]
      go_enter Tryz.func82, Tryz.ntmps82
      go_wp2_with fail
      go_ret
      exact ⟨ret_bool (by simp), rfl⟩
  · rw [decide_eq_false (by omega)]
    go_enter Tryz.func82, Tryz.ntmps82
    go_wp2_with fail
    go_ret
    exact ⟨ret_bool (by simp), rfl⟩

def txs (r : Req) : List (Fd × Int × Bs) := [(.T, 24, r.topic), (.K, 64, r.key), (.V, 1024, r.value)]
def nxs (r : Req) : List (Fd × Int) := [(.O, r.off), (.N, r.num), (.P, r.pid), (.S, r.seq)]
def okT (op : Int) (x : Fd × Int × Bs) : Bool := decide ((x.2.2.length : Int) ≤ x.2.1) && (has op x.1 || decide (x.2.2 = []))
def okN (op : Int) (x : Fd × Int) : Bool := decide (0 ≤ x.2) && (has op x.1 || decide (x.2 = 0))
theorem okReq_eq (r : Req) : okReq r = (decide (1 ≤ r.op ∧ r.op ≤ 15) && (txs r).all (okT r.op) && (nxs r).all (okN r.op)) := by
  rw [Bool.eq_iff_iff]
  simp only [okReq, txs, nxs, okT, okN, List.all_cons, List.all_nil, Bool.and_eq_true, Bool.or_eq_true, decide_eq_true_eq, Bool.and_true]
  constructor
  · rintro ⟨⟨⟨⟨⟨⟨⟨⟨⟨⟨⟨⟨⟨⟨⟨h1, h2⟩, h3⟩, h4⟩, h5⟩, h6⟩, h7⟩, h8⟩, h9⟩, h10⟩, h11⟩, h12⟩, h13⟩, h14⟩, h15⟩, h16⟩
    exact ⟨⟨⟨h1, h2⟩, ⟨by omega, h6⟩, ⟨by omega, h7⟩, ⟨by omega, h8⟩⟩, ⟨h9, h13⟩, ⟨h10, h14⟩, ⟨h11, h15⟩, ⟨h12, h16⟩⟩
  · rintro ⟨⟨⟨h1, h2⟩, ⟨h3, h6⟩, ⟨h4, h7⟩, ⟨h5, h8⟩⟩, ⟨h9, h13⟩, ⟨h10, h14⟩, ⟨h11, h15⟩, ⟨h12, h16⟩⟩
    exact ⟨⟨⟨⟨⟨⟨⟨⟨⟨⟨⟨⟨⟨⟨⟨h1, h2⟩, by omega⟩, by omega⟩, by omega⟩, h6⟩, h7⟩, h8⟩, h9⟩, h10⟩, h11⟩, h12⟩, h13⟩, h14⟩, h15⟩, h16⟩
theorem all_false {α : Type} {p : α → Bool} {l : List α} {i : Nat} {x : α} (h : l[i]? = some x) (hp : p x = false) : l.all p = false := by
  rw [List.all_eq_false]
  exact ⟨x, List.mem_of_getElem? h, by rw [hp]; decide⟩
def t0 : Array Value := #[.int .i64 0, .int .i64 0, .string ByteArray.empty]
def n0 : Array Value := #[.int .i64 0, .int .i64 0]
def txC (x : Fd × Int × Bs) : List Value := [.int .i64 (fbit x.1), .int .i64 x.2.1, .string (S x.2.2)]
def nxC (x : Fd × Int) : List Value := [.int .i64 (fbit x.1), .int .i64 x.2]
theorem txC_one (x : Fd × Int × Bs) : ∀ u ∈ txC x, u.oneCell' = true := by
  intro u hu
  simp only [txC, List.mem_cons, List.not_mem_nil, or_false] at hu
  rcases hu with rfl | rfl | rfl <;> rfl
theorem nxC_one (x : Fd × Int) : ∀ u ∈ nxC x, u.oneCell' = true := by
  intro u hu
  simp only [nxC, List.mem_cons, List.not_mem_nil, or_false] at hu
  rcases hu with rfl | rfl <;> rfl
theorem put_tx (x : Fd × Int × Bs) : ∀ (j : Nat) (v : Value), (txC x)[j]? = some v → (putFrom t0 0 (txC x))[j]? = some v := fun j v hv => by
  have := putFrom_in (txC x) t0 0 j (List.getElem?_eq_some_iff.1 hv).1 (Nat.le_refl _)
  rw [Nat.zero_add] at this
  rw [this, hv]
theorem put_nx (x : Fd × Int) : ∀ (j : Nat) (v : Value), (nxC x)[j]? = some v → (putFrom n0 0 (nxC x))[j]? = some v := fun j v hv => by
  have := putFrom_in (nxC x) n0 0 j (List.getElem?_eq_some_iff.1 hv).1 (Nat.le_refl _)
  rw [Nat.zero_add] at this
  rw [this, hv]
def reqA (r : Req) : Array Value := #[.int .u32 r.id, .int .i64 r.op, .string (S r.topic), .string (S r.key), .string (S r.value), .int .i64 r.off, .int .i64 r.num, .int .i64 r.pid, .int .i64 r.seq]

/-- what CheckRequest answers -/
def okE (r : Req) : Int := if okReq r = true then 0 else 161
theorem ret_int {a b : Int} (h : a = b) : Ending.returned (.int .i64 a) = .returned (.int .i64 b) := by rw [h]
theorem okE_no {r : Req} (h : okReq r = false) : okE r = 161 := by unfold okE; rw [h]; rfl
theorem okE_yes {r : Req} (h : okReq r = true) : okE r = 0 := by unfold okE; rw [if_pos h]
set_option maxRecDepth 100000 in
set_option maxHeartbeats 8000000 in
theorem check_any (r : Req) (w : World) (hu : Use w) (hn : I64 r.off ∧ I64 r.num ∧ I64 r.pid ∧ I64 r.seq) (ht : r.topic.length ≤ 1048576) (hk : r.key.length ≤ 1048576) (hv : r.value.length ≤ 1048576) :
    Calls Tryz.prog 59 #[.agg (reqA r)] w fun e w' => e = .returned (.int .i64 (okE r)) ∧ Below w.heap.size w w' := by
  have hT0 := Blk.new w 24 (reqA r)
  have hB0 : Below w.heap.size w (w.alloc (.cells (reqA r) 24)) := (Below.refl _ _).alloc (Nat.le_refl _) _
  unfold reqA
  go_enter Tryz.func59, Tryz.ntmps59
  go_upto_region 1 with fail
  unfold reqA at hT0 hB0
  generalize hw0 : w.alloc _ = w0 at hT0 hB0 ⊢
  have HT0 := Lib.hid hT0
  have HB0 := Lib.hid hB0
  have HU : Hid (Use w0) := use_below hu hB0
  have c1 : w0.cell? ⟨w.heap.size, 1, none⟩ = some (.int .i64 r.op) := hT0.cell 1
  have HOK := Lib.hid (okReq_eq r)
  clear hT0 hB0 hw0 hu
  go_wp2_with fail
  refine (isOp_any r.op w0).mono ?_
  rintro e w1 ⟨rfl, rfl⟩
  by_cases hin : 1 ≤ r.op ∧ r.op ≤ 15
  · rw [decide_eq_true hin]
    obtain ⟨hi0, hi1⟩ := hin
    obtain ⟨bt, hbt⟩ : ∃ b, b = bitsN r.op.toNat := ⟨_, rfl⟩
    have cu : w0.cell? ⟨1, r.op.toNat, none⟩ = some (.int .i64 bt) := by rw [hbt]; exact HU.out.2 _ (by omega)
    have HBT := Lib.hid hbt
    have c2 : w0.cell? ⟨w.heap.size, 2, none⟩ = some (.string (S r.topic)) := HT0.out.cell 2
    have c3 : w0.cell? ⟨w.heap.size, 3, none⟩ = some (.string (S r.key)) := HT0.out.cell 3
    have c4 : w0.cell? ⟨w.heap.size, 4, none⟩ = some (.string (S r.value)) := HT0.out.cell 4
    clear hbt
    go_wp2_with fail
    obtain ⟨g1, hg1⟩ : ∃ g, g = w0.heap.size := ⟨_, rfl⟩
    have hT1 := Blk.new w0 112 #[.int .i64 1, .int .i64 24, .string (S r.topic), .int .i64 2, .int .i64 64, .string (S r.key), .int .i64 4, .int .i64 1024, .string (S r.value)]
    have hB1 : Below w0.heap.size w0 (w0.alloc (.cells #[.int .i64 1, .int .i64 24, .string (S r.topic), .int .i64 2, .int .i64 64, .string (S r.key), .int .i64 4, .int .i64 1024, .string (S r.value)] 112)) := (Below.refl _ _).alloc (Nat.le_refl _) _
    rw [← hg1] at hT1 ⊢
    generalize hW : w0.alloc _ = W at hT1 hB1 ⊢
    have HT1 : Hid (∀ (k : Nat) (x : Fd × Int × Bs), (txs r)[k]? = some x → ∀ (j : Nat) (v : Value), (txC x)[j]? = some v → W.cell? ((⟨g1, k * 3, none⟩ : Addr).add j) = some v) := Lib.hid (fun k x hx j v hv => by
      rw [add_flat, hT1.cell]
      have hk : k < 3 := (List.getElem?_eq_some_iff.1 hx).1
      have hj : j < 3 := (List.getElem?_eq_some_iff.1 hv).1
      rcases (by omega : k = 0 ∨ k = 1 ∨ k = 2) with rfl | rfl | rfl <;> obtain rfl := Option.some.inj hx <;> rcases (by omega : j = 0 ∨ j = 1 ∨ j = 2) with rfl | rfl | rfl <;> exact hv)
    have HB1 : Hid (Below w.heap.size w W) := HB0.out.trans (hB1.mono HB0.out.size)
    have HTW : Hid (Blk W w.heap.size 24 (reqA r)) := HT0.out.below hB1 HT0.out.lt
    have HG1 : Hid (g1 < W.heap.size) := hT1.lt
    clear hT1 hB1 hW cu c1 c2 c3 c4 hg1
    go_loopw [31] (fun i wr => ∃ (j : Nat), j ≤ 3 ∧ i = .int .i64 j ∧ Hid (Below W.heap.size W wr) ∧ Hid (∀ k, k < j → ∀ x, (txs r)[k]? = some x → okT r.op x = true)) (fun i _ => 3 - (intOf i).toNat)
    case atStart => exact ⟨0, by omega, rfl, Below.refl _ _, fun k hk => absurd hk (Nat.not_lt_zero k)⟩
    case round =>
      obtain ⟨j, hj, rfl, HB, HA⟩ := hrel
      by_cases hlt : j < 3
      · obtain ⟨x, hx⟩ : ∃ x, (txs r)[j]? = some x := ⟨_, List.getElem?_eq_getElem (show j < (txs r).length from hlt)⟩
        have RS := Lib.hid (fun (i : Nat) (v : Value) (h : (txC x)[i]? = some v) => (HB.out.cell (p := (⟨g1, j * 3, none⟩ : Addr).add i) (by rw [add_flat]; exact HG1.out)).trans (HT1.out j x hx i v h))
        have HX := Lib.hid hx
        have hxl : x.2.2.length ≤ 1048576 := by
          rcases (by omega : j = 0 ∨ j = 1 ∨ j = 2) with rfl | rfl | rfl <;> obtain rfl := Option.some.inj hx <;> assumption
        obtain ⟨f, m, t⟩ := x
        obtain ⟨fb, hfb⟩ : ∃ b, b = fbit f := ⟨_, rfl⟩
        have hand : bits BinOp.and IntKind.i64 bt fb = if has r.op f = true then fb else 0 := by rw [HBT.out, hfb]; exact and_bits _ (by omega) f
        have hfne : fb ≠ 0 := by rw [hfb]; exact fbit_ne f
        clear hx
        go_upto_region 8 with (first
          | ((with_reducible refine at_op ⟨_, .load 112 (.tmp 33), _, _, _, _⟩ ?_); refine wpList_load_list rfl 112 (.tmp 33) rfl ⟨g1, j * 3, none⟩ rfl (txC (f, m, t)) RS.out _ Tryz.underlying112 rfl (by kernel_rfl) ?_)
          | ((with_reducible refine at_op ⟨_, .store 112 (.tmp 6) (.tmp 34), _, _, _, _⟩ ?_); refine wpList_store_blk rfl 112 (.tmp 6) (.tmp 34) rfl wr.heap.size 0 rfl (txC (f, m, t)) rfl (txC_one _) 112 t0 (Blk.new wr 112 t0) (show 0 + 3 ≤ 3 from Nat.le_refl 3) (by kernel_rfl) ?_; intro w2 hT2 hg2 hs2; have HT2 := Lib.hid hT2; have HG2 := Lib.hid hg2; clear hT2 hg2 hs2)
          | fail)
        simp only [Act.put]
        have HB2 : Hid (Below W.heap.size W w2) := below_gb (HB.out.alloc HB.out.size _) HG2.out (le_alloc _ HB.out.size) HB.out.size
        have HBw : Hid (Below w.heap.size w w2) := HB1.out.trans (HB2.out.mono HB1.out.size)
        have d0 : w2.cell? ⟨wr.heap.size, 0, none⟩ = some (.int .i64 fb) := (HT2.out.cell 0).trans (by rw [hfb]; exact put_tx (f, m, t) 0 _ rfl)
        have d1 : w2.cell? ⟨wr.heap.size, 1, none⟩ = some (.int .i64 m) := (HT2.out.cell 1).trans (put_tx (f, m, t) 1 _ rfl)
        have d2 : w2.cell? ⟨wr.heap.size, 2, none⟩ = some (.string (S t)) := (HT2.out.cell 2).trans (put_tx (f, m, t) 2 _ rfl)
        have hsz : (S t).size = t.length := rfl
        have hxl' : t.length ≤ 1048576 := hxl
        clear hfb HT2 HG2 RS HB hxl
        by_cases hlen : (t.length : Int) ≤ m
        · by_cases hh : has r.op f = true
          · rw [if_pos hh] at hand
            have HN : Hid (∀ k, k < j + 1 → ∀ x, (txs r)[k]? = some x → okT r.op x = true) := Lib.hid (fun k hk x hx => by
              rcases Nat.lt_succ_iff_lt_or_eq.1 hk with h | rfl
              · exact HA.out k h x hx
              · obtain rfl := Option.some.inj (HX.out.symm.trans hx)
                simp [okT, hlen, hh])
            clear HA hh
            go_wp2_with fail
            go_roundw
            case rel => exact ⟨j + 1, by omega, by go_num, HB2, HN⟩
            case measure => simp [intOf]; omega
          · rw [if_neg hh] at hand
            by_cases he : t = []
            · have HN : Hid (∀ k, k < j + 1 → ∀ x, (txs r)[k]? = some x → okT r.op x = true) := Lib.hid (fun k hk x hx => by
                rcases Nat.lt_succ_iff_lt_or_eq.1 hk with h | rfl
                · exact HA.out k h x hx
                · obtain rfl := Option.some.inj (HX.out.symm.trans hx)
                  show (decide ((t.length : Int) ≤ m) && (has r.op f || decide (t = []))) = true
                  rw [decide_eq_true hlen, decide_eq_true he]; simp)
              have hS : S t = (⟨#[]⟩ : ByteArray) := by rw [he]; rfl
              clear HA hh he
              go_wp2_with fail
              go_roundw
              case rel => exact ⟨j + 1, by omega, by go_num, HB2, HN⟩
              case measure => simp [intOf]; omega
            · have HF : Hid (161 = okE r) := Lib.hid (okE_no (by rw [HOK.out, all_false HX.out (by simp [okT, hlen, hh, he])]; simp)).symm
              have hS : (S t).toList.isEmpty = false := by rw [S_list]; simp [he]
              clear HA hh he
              go_wp2_with fail
              go_ret
              exact ⟨ret_int HF.out, HBw.out⟩
        · have HF : Hid (161 = okE r) := Lib.hid (okE_no (by rw [HOK.out, all_false HX.out (by simp [okT, hlen])]; simp)).symm
          clear HA hand
          go_wp2_with fail
          go_ret
          exact ⟨ret_int HF.out, HBw.out⟩
      · have HT : Hid ((txs r).all (okT r.op) = true) := Lib.hid (List.all_eq_true.2 fun x hx => by
          obtain ⟨k, hk, rfl⟩ := List.mem_iff_getElem.1 hx
          have h3 : (txs r).length = 3 := rfl
          exact HA.out k (by omega) _ (List.getElem?_eq_getElem hk))
        have HTr := Lib.hid (HTW.out.below HB.out HTW.out.lt)
        have HBr : Hid (Below w.heap.size w wr) := HB1.out.trans (HB.out.mono HB1.out.size)
        have e5 : wr.cell? ⟨w.heap.size, 5, none⟩ = some (.int .i64 r.off) := HTr.out.cell 5
        have e6 : wr.cell? ⟨w.heap.size, 6, none⟩ = some (.int .i64 r.num) := HTr.out.cell 6
        have e7 : wr.cell? ⟨w.heap.size, 7, none⟩ = some (.int .i64 r.pid) := HTr.out.cell 7
        have e8 : wr.cell? ⟨w.heap.size, 8, none⟩ = some (.int .i64 r.seq) := HTr.out.cell 8
        clear HA HT1 HG1
        go_wp2_with fail
        clear e5 e6 e7 e8
        obtain ⟨w5, rfl⟩ : ∃ w5 : World, w5 = wr := ⟨_, rfl⟩
        obtain ⟨g2, hg2⟩ : ∃ g, g = w5.heap.size := ⟨_, rfl⟩
        have hT1 := Blk.new w5 114 #[.int .i64 8, .int .i64 r.off, .int .i64 16, .int .i64 r.num, .int .i64 32, .int .i64 r.pid, .int .i64 64, .int .i64 r.seq]
        have hB1 : Below w5.heap.size w5 (w5.alloc (.cells #[.int .i64 8, .int .i64 r.off, .int .i64 16, .int .i64 r.num, .int .i64 32, .int .i64 r.pid, .int .i64 64, .int .i64 r.seq] 114)) := (Below.refl _ _).alloc (Nat.le_refl _) _
        rw [← hg2] at hT1 ⊢
        generalize hV : w5.alloc _ = V at hT1 hB1 ⊢
        have HT2 : Hid (∀ (k : Nat) (x : Fd × Int), (nxs r)[k]? = some x → ∀ (j : Nat) (v : Value), (nxC x)[j]? = some v → V.cell? ((⟨g2, k * 2, none⟩ : Addr).add j) = some v) := Lib.hid (fun k x hx j v hv => by
          rw [add_flat, hT1.cell]
          have hk : k < 4 := (List.getElem?_eq_some_iff.1 hx).1
          have hj : j < 2 := (List.getElem?_eq_some_iff.1 hv).1
          rcases (by omega : k = 0 ∨ k = 1 ∨ k = 2 ∨ k = 3) with rfl | rfl | rfl | rfl <;> obtain rfl := Option.some.inj hx <;> rcases (by omega : j = 0 ∨ j = 1) with rfl | rfl <;> exact hv)
        have HBV : Hid (Below w.heap.size w V) := HBr.out.trans (hB1.mono HBr.out.size)
        have HG2 : Hid (g2 < V.heap.size) := hT1.lt
        clear hT1 hB1 hV hg2 HTr HTW HB1 HB HBr hlt hj
        go_loopw [69] (fun i wr => ∃ (j : Nat), j ≤ 4 ∧ i = .int .i64 j ∧ Hid (Below V.heap.size V wr) ∧ Hid (∀ k, k < j → ∀ x, (nxs r)[k]? = some x → okN r.op x = true)) (fun i _ => 4 - (intOf i).toNat)
        case atStart => exact ⟨0, by omega, rfl, Below.refl _ _, fun k hk => absurd hk (Nat.not_lt_zero k)⟩
        case round =>
          obtain ⟨j, hj, rfl, HB, HA⟩ := hrel
          by_cases hlt : j < 4
          · obtain ⟨x, hx⟩ : ∃ x, (nxs r)[j]? = some x := ⟨_, List.getElem?_eq_getElem (show j < (nxs r).length from hlt)⟩
            have RS := Lib.hid (fun (i : Nat) (v : Value) (h : (nxC x)[i]? = some v) => (HB.out.cell (p := (⟨g2, j * 2, none⟩ : Addr).add i) (by rw [add_flat]; exact HG2.out)).trans (HT2.out j x hx i v h))
            have HX := Lib.hid hx
            have hxn : I64 x.2 := by
              rcases (by omega : j = 0 ∨ j = 1 ∨ j = 2 ∨ j = 3) with rfl | rfl | rfl | rfl <;> obtain rfl := Option.some.inj hx
              · exact hn.1
              · exact hn.2.1
              · exact hn.2.2.1
              · exact hn.2.2.2
            obtain ⟨f, q⟩ := x
            obtain ⟨fb, hfb⟩ : ∃ b, b = fbit f := ⟨_, rfl⟩
            have hand : bits BinOp.and IntKind.i64 bt fb = if has r.op f = true then fb else 0 := by rw [HBT.out, hfb]; exact and_bits _ (by omega) f
            have hfne : fb ≠ 0 := by rw [hfb]; exact fbit_ne f
            clear hx
            go_upto_region 15 with (first
              | ((with_reducible refine at_op ⟨_, .load 114 (.tmp 71), _, _, _, _⟩ ?_); refine wpList_load_list rfl 114 (.tmp 71) rfl ⟨g2, j * 2, none⟩ rfl (nxC (f, q)) RS.out _ Tryz.underlying114 rfl (by kernel_rfl) ?_)
              | ((with_reducible refine at_op ⟨_, .store 114 (.tmp 9) (.tmp 72), _, _, _, _⟩ ?_); refine wpList_store_blk rfl 114 (.tmp 9) (.tmp 72) rfl wr.heap.size 0 rfl (nxC (f, q)) rfl (nxC_one _) 114 n0 (Blk.new wr 114 n0) (show 0 + 2 ≤ 2 from Nat.le_refl 2) (by kernel_rfl) ?_; intro w2 hT2 hg2 hs2; have HT3 := Lib.hid hT2; have HG3 := Lib.hid hg2; clear hT2 hg2 hs2)
              | fail)
            simp only [Act.put]
            have HB2 : Hid (Below V.heap.size V w2) := below_gb (HB.out.alloc HB.out.size _) HG3.out (le_alloc _ HB.out.size) HB.out.size
            have HBw : Hid (Below w.heap.size w w2) := HBV.out.trans (HB2.out.mono HBV.out.size)
            have d0 : w2.cell? ⟨wr.heap.size, 0, none⟩ = some (.int .i64 fb) := (HT3.out.cell 0).trans (by rw [hfb]; exact put_nx (f, q) 0 _ rfl)
            have d1 : w2.cell? ⟨wr.heap.size, 1, none⟩ = some (.int .i64 q) := (HT3.out.cell 1).trans (put_nx (f, q) 1 _ rfl)
            obtain ⟨hxn0, hxn1⟩ := hxn
            clear hfb HT3 HG3 RS HB
            by_cases hlen : 0 ≤ q
            · by_cases hh : has r.op f = true
              · rw [if_pos hh] at hand
                have HN : Hid (∀ k, k < j + 1 → ∀ x, (nxs r)[k]? = some x → okN r.op x = true) := Lib.hid (fun k hk x hx => by
                  rcases Nat.lt_succ_iff_lt_or_eq.1 hk with h | rfl
                  · exact HA.out k h x hx
                  · obtain rfl := Option.some.inj (HX.out.symm.trans hx)
                    simp [okN, hlen, hh])
                clear HA hh
                go_wp2_with fail
                go_roundw
                case rel => exact ⟨j + 1, by omega, by go_num, HB2, HN⟩
                case measure => simp [intOf]; omega
              · rw [if_neg hh] at hand
                by_cases he : q = 0
                · have HN : Hid (∀ k, k < j + 1 → ∀ x, (nxs r)[k]? = some x → okN r.op x = true) := Lib.hid (fun k hk x hx => by
                    rcases Nat.lt_succ_iff_lt_or_eq.1 hk with h | rfl
                    · exact HA.out k h x hx
                    · obtain rfl := Option.some.inj (HX.out.symm.trans hx)
                      show (decide (0 ≤ q) && (has r.op f || decide (q = 0))) = true
                      rw [decide_eq_true hlen, decide_eq_true he]; simp)
                  clear HA hh
                  go_wp2_with fail
                  go_roundw
                  case rel => exact ⟨j + 1, by omega, by go_num, HB2, HN⟩
                  case measure => simp [intOf]; omega
                · have HF : Hid (161 = okE r) := Lib.hid (okE_no (by rw [HOK.out, all_false HX.out (by simp [okN, hlen, hh, he])]; simp)).symm
                  have hne : (q != 0) = true := by simpa using he
                  clear HA hh
                  go_wp2_with fail
                  go_ret
                  exact ⟨ret_int HF.out, HBw.out⟩
            · have HF : Hid (161 = okE r) := Lib.hid (okE_no (by rw [HOK.out, all_false HX.out (by simp [okN, hlen])]; simp)).symm
              clear HA hand
              go_wp2_with fail
              go_ret
              exact ⟨ret_int HF.out, HBw.out⟩
          · have HT4 : Hid ((nxs r).all (okN r.op) = true) := Lib.hid (List.all_eq_true.2 fun x hx => by
              obtain ⟨k, hk, rfl⟩ := List.mem_iff_getElem.1 hx
              have h3 : (nxs r).length = 4 := rfl
              exact HA.out k (by omega) _ (List.getElem?_eq_getElem hk))
            have HF : Hid (0 = okE r) := Lib.hid (okE_yes (by rw [HOK.out, HT.out, HT4.out, decide_eq_true ⟨hi0, hi1⟩]; rfl)).symm
            have HBr : Hid (Below w.heap.size w wr) := HBV.out.trans (HB.out.mono HBV.out.size)
            clear HA
            go_wp2_with fail
            go_ret
            exact ⟨ret_int HF.out, HBr.out⟩
  · rw [decide_eq_false hin]
    have HF : Hid (161 = okE r) := Lib.hid (okE_no (by rw [HOK.out, decide_eq_false hin]; rfl)).symm
    clear hin
    go_wp2_with fail
    go_ret
    exact ⟨ret_int HF.out, HB0.out⟩
end Go.Proofs.YtepalbldleegiaaGreatDoor.sh
