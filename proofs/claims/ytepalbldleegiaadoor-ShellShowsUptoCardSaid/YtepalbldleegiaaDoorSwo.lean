/-
  The law ShellShows walked.
  Conditions: numbers as their types have them; the response has at most 1048576 letters and items; two tables are as they were laid.
-/
import Derived.Test.YtepalbldleegiaaDoorSwp
import Derived.Deep.RegionLaw
namespace Go.Proofs.YtepalbldleegiaaDoor.sh
open Go.RowKit
open Go.Lib (itoa decDigits byteCells)

theorem NamesAt.up {w w' : World} {D : Option Addr} {l : List Bs} (h : NamesAt w w.heap.size D l) (hb : Below w.heap.size w w') : NamesAt w' w'.heap.size D l := fun hn => by
  obtain ⟨b, off, e, hlt, hc⟩ := h hn
  exact ⟨b, off, e, Nat.lt_of_lt_of_le hlt hb.size, fun i x hx => (hb.cell (p := ⟨b, off + i, none⟩) hlt).trans (hc i x hx)⟩
theorem RecsAt.up {w w' : World} {D : Option Addr} {l : List Rec} (h : RecsAt w w.heap.size D l) (hb : Below w.heap.size w w') : RecsAt w' w'.heap.size D l := fun hn => by
  obtain ⟨b, off, e, hlt, hc⟩ := h hn
  exact ⟨b, off, e, Nat.lt_of_lt_of_le hlt hb.size, fun i x hx j v hv => (hb.cell (p := ⟨b, off + i * 7 + j, none⟩) hlt).trans (hc i x hx j v hv)⟩
def rsp0 : Array Value := #[.int .u32 0, .int .i64 0, .int .i64 0, .int .i64 0, .int .i64 0, .bool false, .slice none 0 0, .slice none 0 0]
def rspL (r : Rsp Rec) (cR cN : Value) : List Value := [.int .u32 r.id, .int .i64 r.op, .int .i64 r.code, .int .i64 r.off, .int .i64 r.num, .bool r.more, cR, cN]
theorem put_rsp (r : Rsp Rec) (cR cN : Value) : putFrom rsp0 0 (rspL r cR cN) = boxC r cR cN := by simp [putFrom, rsp0, rspL, boxC]
theorem rspL_one (r : Rsp Rec) (a b : Option Addr × Nat × Nat) : ∀ u ∈ rspL r (.slice a.1 a.2.1 a.2.2) (.slice b.1 b.2.1 b.2.2), u.oneCell' = true := by
  intro u hu
  simp only [rspL, List.mem_cons, List.not_mem_nil, or_false] at hu
  rcases hu with rfl | rfl | rfl | rfl | rfl | rfl | rfl | rfl <;> rfl
theorem box_load {w : World} {g : Nat} {r : Rsp Rec} {cR cN : Value} (h : Blk w g 26 (boxC r cR cN)) : ∀ (j : Nat) (v : Value), (rspL r cR cN)[j]? = some v → w.cell? ((⟨g, 0, none⟩ : Addr).add j) = some v := fun j v hv => by
  rw [add_flat, Nat.zero_add, h.cell]
  simpa [rspL, boxC] using hv
theorem own_cells {w : World} {B : Nat} {e : TypeId} {s : Nat} {v : Value} {n : Nat} {xs : List Value} (h : w.ownsRow B e s v n xs) : v.cells = #[v] ∧ v.oneCell' = true := by
  rcases h.2 with ⟨rfl, -⟩ | ⟨g, cap, cur, rfl, -⟩ <;> exact ⟨rfl, rfl⟩
theorem step_append_own {P : Program} {ops : Array Oper} {o : Oper} {a : Act} {w : World} {K : Act → World → Prop} {Q : Exit → Act → World → Prop} {E : Prop}
    (hg : o.guard = none) (s x : Operand) (t : TypeId) (hop : o.op = Op.call { callee := Callee.builtin Builtin.append, args := #[s, x], argTypes := #[t, t] })
    (base : Nat) (e : TypeId) (i : TypeInfo) (z : Value) (size bytes : Nat) (h1 : P.underlying t = some (.slice e)) (h2 : P.info? e = some i) (h3 : i.zero = some z) (h4 : i.size = size) (h5 : i.bytes = bytes) (h6 : z.cells.size = size) (h7 : 0 < size)
    (v : Value) (n : Nat) (xs : List Value) (hs : a.eval s = v) (hown : w.ownsRow base e size v n xs)
    (ad : Addr) (m c : Nat) (news : List Value) (hx : a.eval x = .slice (some ad) m c) (hn : news.length = m * size) (hc : ∀ j u, news[j]? = some u → w.cell? (ad.add j) = some u) (h1c : ∀ u ∈ news, u.oneCell' = true)
    (b1 : n + m ≤ maxLen) (b2 : (n + m) * bytes ≤ 140737488355328) (hbase : base ≤ w.heap.size)
    (hK : ∀ v' w', w'.ownsRow base e size v' (n + m) (xs ++ news) → w.grownBy w' v.ownBlock → K (a.put o.dst v') w') :
    if Region.wanted o (yielded ops a.tmps) = true then Oper.wp P o a w K Q else E := by
  have hw : Region.wanted o (yielded ops a.tmps) = true := by simp [Region.wanted, hg]
  rw [if_pos hw]
  obtain ⟨v', w', hrun, r1, r2, _⟩ := run_append_own (P := P) w base t o.type e i z size bytes h1 h2 h3 h4 h5 h6 h7 v n xs hown ad m c news hn hc h1c b1 b2 hbase
  unfold Oper.wp
  simp [execOp, hop, resolve, invoke, builtin, hs, hx, hrun, Result.andThen]
  exact hK v' w' r1 r2
theorem inc_load {w : World} {g : Nat} {x : Rec} (h : Blk w g 29 (putFrom (putFrom rec0 0 (recL x)) 1 [.int .i64 (inc1 x.off)])) : ∀ (j : Nat) (v : Value), (recL (incR x))[j]? = some v → w.cell? ((⟨g, 0, none⟩ : Addr).add j) = some v := fun j v hv => by
  rw [add_flat, Nat.zero_add, h.cell]
  simpa [recL, incR, putFrom, rec0] using hv
theorem over_not {r : Rsp Rec} (hN : lenN r.names ≤ 1048576) (hR : lenR r.recs ≤ 1048576) : over r = false := decide_eq_false (by omega)

set_option maxRecDepth 100000 in
set_option maxHeartbeats 8000000 in
theorem law_any (r : Rsp Rec) (A : Option Addr) (c : Nat) (D : Option Addr) (d : Nat) (w : World) (ht : Tab w) (hcd : Cod w) (hid : 0 ≤ r.id ∧ r.id < 4294967296) (hop : I64 r.op) (hco : I64 r.code) (hof : I64 r.off) (hnu : I64 r.num) (hnm : NamesAt w w.heap.size D r.names) (hN : lenN r.names ≤ 1048576) (hrc : RecsAt w w.heap.size A r.recs) (hrk : ∀ x ∈ r.recs, x.ok) (hR : lenR r.recs ≤ 1048576) :
    Calls Tryd.prog 3 #[rspV r A c D d] w fun e w' => e = .returned (.bool true) ∧ Below w.heap.size w w' := by
  obtain ⟨i0, hi0, hz0, hz1, hz2⟩ := info_parts infoStr
  obtain ⟨i7, hi7, hy0, hy1, hy2⟩ := info_parts infoRec
  unfold rspV
  go_enter Tryd.func3, Tryd.ntmps3
  go_upto_region 1 with fail
  have hT0 := Blk.new w 26 (boxC r (.slice A r.recs.length c) (.slice D r.names.length d))
  have hB0 : Below w.heap.size w (w.alloc (.cells (boxC r (.slice A r.recs.length c) (.slice D r.names.length d)) 26)) := (Below.refl _ _).alloc (Nat.le_refl _) _
  unfold boxC at hT0 hB0
  generalize hw0 : w.alloc (.cells #[.int .u32 r.id, .int .i64 r.op, .int .i64 r.code, .int .i64 r.off, .int .i64 r.num, .bool r.more, .slice A r.recs.length c, .slice D r.names.length d] 26) = w0 at hT0 hB0 ⊢
  have HT0 : Hid (Blk w0 w.heap.size 26 (boxC r (.slice A r.recs.length c) (.slice D r.names.length d))) := hT0
  have HB0 := Lib.hid hB0
  have HTAB := Lib.hid ht
  have HCOD := Lib.hid hcd
  have HNM := Lib.hid hnm
  have HRC := Lib.hid hrc
  have HRK := Lib.hid hrk
  have HN := Lib.hid hN
  have HR := Lib.hid hR
  have HIN : Hid (0 ≤ r.id ∧ r.id < 4294967296 ∧ I64 r.op ∧ I64 r.code ∧ I64 r.off ∧ I64 r.num) := ⟨hid.1, hid.2, hop, hco, hof, hnu⟩
  clear hT0 hB0 hw0 ht hcd hnm hrc hrk hN hR hid hop hco hof hnu
  go_wp2_with (first
    | ((with_reducible refine at_op ⟨_, .load 26 (.tmp 1), _, _, _, _⟩ ?_); refine wpList_load_list rfl 26 (.tmp 1) rfl ⟨w.heap.size, 0, none⟩ rfl (rspL r (.slice A r.recs.length c) (.slice D r.names.length d)) (box_load HT0.out) _ Tryd.underlying26 rfl (by kernel_rfl) ?_)
    | fail)
  refine (beyond_any r A c D d w0 (HNM.out.up HB0.out) (HRC.out.up HB0.out) ?_ ?_ ?_ ?_).mono ?_
  · intro x hx
    have := lenN_mem hx
    have := HN.out
    omega
  · intro x hx
    have := lenR_mem hx
    have := HR.out
    omega
  · exact Nat.le_trans (lenN_ge _) (Nat.le_trans HN.out (by decide))
  · exact Nat.le_trans (lenR_ge _) (Nat.le_trans HR.out (by decide))
  rintro e w1 ⟨rfl, hb1⟩
  rw [over_not HN.out HR.out]
  have HB1 : Hid (Below w.heap.size w w1) := HB0.out.trans (hb1.mono HB0.out.size)
  have HT1 := Lib.hid (HT0.out.below hb1 HT0.out.lt)
  clear hb1 HT0 HB0
  go_wp2_with (first
    | ((with_reducible refine at_op ⟨_, .load 26 (.tmp 1), _, _, _, _⟩ ?_); refine wpList_load_list rfl 26 (.tmp 1) rfl ⟨w.heap.size, 0, none⟩ rfl (rspL r (.slice A r.recs.length c) (.slice D r.names.length d)) (box_load HT1.out) _ Tryd.underlying26 rfl (by kernel_rfl) ?_)
    | ((with_reducible refine at_op ⟨_, .store 26 (.tmp 3) (.tmp 16), _, _, _, _⟩ ?_); refine wpList_store_blk rfl 26 (.tmp 3) (.tmp 16) rfl w1.heap.size 0 rfl (rspL r (.slice A r.recs.length c) (.slice D r.names.length d)) rfl (rspL_one r (A, _, _) (D, _, _)) 26 rsp0 (Blk.new w1 26 rsp0) (show 0 + 8 ≤ 8 from Nat.le_refl 8) (by kernel_rfl) ?_; intro w2 hT2 hg2 hs2; have HT2 := Lib.hid hT2; have HG2 := Lib.hid hg2; have HS2 := Lib.hid hs2; clear hT2 hg2 hs2)
    | ((with_reducible refine at_op ⟨_, .store 24 (.tmp 17) _, _, _, _, _⟩ ?_); refine wpList_store_one rfl 24 (.tmp 17) _ rfl w1.heap.size 7 rfl (.slice none 0 0) rfl rfl rfl 26 (boxC r (.slice A r.recs.length c) (.slice D r.names.length d)) (by rw [← put_rsp]; exact HT2.out) (show 7 + 1 ≤ 8 from Nat.le_refl 8) (by kernel_rfl) ?_; intro w3 hT3 hg3 hs3; have HT3 := Lib.hid hT3; have HG3 := Lib.hid hg3; have HS3 := Lib.hid hs3; clear hT3 hg3 hs3)
    | ((with_reducible refine at_op ⟨_, .store 23 (.tmp 18) _, _, _, _, _⟩ ?_); refine wpList_store_one rfl 23 (.tmp 18) _ rfl w1.heap.size 6 rfl (.slice none 0 0) rfl rfl rfl 26 (boxC r (.slice A r.recs.length c) (.slice none 0 0)) (by rw [← putN]; exact HT3.out) (show 6 + 1 ≤ 8 by decide) (by kernel_rfl) ?_; intro w4 hT4 hg4 hs4; have HT4 := Lib.hid hT4; have HG4 := Lib.hid hg4; have HS4 := Lib.hid hs4; clear hT4 hg4 hs4)
    | fail)
  obtain ⟨h, hh⟩ : ∃ h, h = w1.heap.size := ⟨_, rfl⟩
  have hwh : w.heap.size < h := by rw [hh]; exact HT1.out.lt
  have hP4 : Ph1 r A c D d w w4 h (.slice none 0 0) (.slice none 0 0) (.slice none 0 0) [] (.slice none 0 0) [] := by
    subst hh
    refine ⟨below_gb (below_gb (below_gb (HB1.out.alloc HB1.out.size _) HG2.out (le_alloc _ HB1.out.size) HB1.out.size) HG3.out (by rw [HS2.out]; exact le_alloc _ HB1.out.size) HB1.out.size) HG4.out (by rw [HS3.out, HS2.out]; exact le_alloc _ HB1.out.size) HB1.out.size, hwh, ?_, ?_, World.ownsRow_nil _ _ _ _, World.ownsRow_nil _ _ _ _⟩
    · exact (((HT1.out.alloc _).gb HG2.out (by omega)).gb HG3.out (by omega)).gb HG4.out (by omega)
    · rw [← putR r (.slice A r.recs.length c)]; exact HT4.out
  have hb4 : Below w.heap.size w w4 := hP4.low
  have HP4 := Lib.hid hP4
  rw [← hh]
  clear hP4 hb4 HT1 HB1 HT2 HG2 HS2 HT3 HG3 HS3 HT4 HG4 HS4 hh
  go_loopw [4] (fun i wr => ∃ (j : Nat) (cN : Value), j ≤ r.names.length ∧ i = .int .i64 j ∧ Hid (Ph1 r A c D d w wr h (.slice none 0 0) cN cN ((r.names.take j).map addx) (.slice none 0 0) [])) (fun i _ => r.names.length - (intOf i).toNat)
  case atStart => exact ⟨0, .slice none 0 0, Nat.zero_le _, rfl, HP4⟩
  case round =>
    obtain ⟨j, cN, hj, rfl, HP⟩ := hrel
    have q7 : wr.cell? ⟨w.heap.size, 7, none⟩ = some (.slice D r.names.length d) := HP.out.box.cell 7
    by_cases hlt : j < r.names.length
    · obtain ⟨b, off, rfl, hb, hcl⟩ := HNM.out (by intro e; rw [e] at hlt; simp at hlt)
      obtain ⟨x, hx⟩ : ∃ x, r.names[j] = x := ⟨_, rfl⟩
      have q0 := (HP.out.low.cell (p := ⟨b, off + j, none⟩) hb).trans (hcl j x (by rw [← hx]; exact List.getElem?_eq_getElem hlt))
      have q1 : wr.cell? ⟨h, 7, none⟩ = some cN := HP.out.cpy.cell 7
      have q1a : (wr.alloc (.cells #[.string (S (addx x))] 9)).cell? ⟨h, 7, none⟩ = some cN := (HP.out.below ((Below.refl _ _).alloc (Nat.le_refl _) _)).cpy.cell 7
      have hxl : x.length ≤ 1048576 := by
        have := lenN_mem (List.getElem_mem hlt)
        rw [hx] at this
        have := HN.out
        omega
      have n1 : ∀ W, (Op.stringOp .add (S x) (⟨#[120]⟩ : ByteArray)).run Tryd.prog W = .ok (.string (S (addx x))) W := fun W => S_add x [120] (by simp only [List.length_cons, List.length_nil]; omega) W
      have HX := Lib.hid hx
      clear hcl hb hx
      go_upto_region 9 with fail
      have hjl : ((r.names.take j).map addx).length = j := by rw [List.length_map, List.length_take]; omega
      have hnb : r.names.length ≤ 1048576 := Nat.le_trans (lenN_ge _) HN.out
      have HPd : Hid (Ph1 r A c (some ⟨b, off, none⟩) d w (wr.drew.alloc (.cells #[.string (S (addx x))] 9)) h (.slice none 0 0) cN cN ((r.names.take j).map addx) (.slice none 0 0) []) := HP.out.below (((Below.refl _ _).drew).alloc (Nat.le_refl _) _)
      go_region_law (refine step_append_own rfl (.tmp 27) (.tmp 34) 24 rfl (h + 1) 9 i0 _ 1 16 Tryd.underlying24 hi0 hz0 hz1 hz2 rfl (by decide) _ ((r.names.take j).map addx).length _ rfl HPd.out.names ⟨wr.drew.heap.size, 0, none⟩ 1 1 (strV [addx x]) rfl rfl (built_cells wr.drew _ _ _ rfl) (strV_one _) (le_maxLen (by omega)) (by omega) HPd.out.cpy.lt ?_; intro v6 w6 hown6 hg6; have HP6 := Lib.hid (HPd.out.addN hown6 hg6); obtain ⟨X6, c6, rfl⟩ := own_slice hown6; have s6 : w6.cell? ⟨h, 7, none⟩ = some cN := HP6.out.cpy.cell 7; have z6 : w6.frozen? ⟨h, 7, none⟩ = false := HP6.out.cpy.frozen 7; clear hown6 hg6)
      all_goals
        have HP8 : Hid (Ph1 r A c (some ⟨b, off, none⟩) d w (w6.setCell ⟨h, 7, none⟩ (.slice X6 (((r.names.take j).map addx).length + 1) c6)) h (.slice none 0 0) (.slice X6 (((r.names.take j).map addx).length + 1) c6) (.slice X6 (((r.names.take j).map addx).length + 1) c6) ((r.names.take (j + 1)).map addx) (.slice none 0 0) []) := Lib.hid (by
          rw [List.take_succ_eq_append_getElem hlt, HX.out, List.map_append, List.map_cons, List.map_nil]; exact HP6.out.put7 _)
        rw [hjl] at HP8
        clear HP6 HPd s6 z6 q0 q1 q1a q7
        go_wp2_with fail
        go_roundw
        case rel => exact ⟨j + 1, _, by omega, by go_num, HP8⟩
        case measure => simp [intOf]; omega
    · have hja : j = r.names.length := by omega
      have HPa : Hid (Ph1 r A c D d w wr h (.slice none 0 0) cN cN (r.names.map addx) (.slice none 0 0) []) := Lib.hid (by have := HP.out; rw [hja, List.take_length] at this; exact this)
      clear hja HP
      go_wp2_with fail
      clear q7 hlt
      obtain ⟨wo, rfl⟩ : ∃ wo : World, wo = wr := ⟨_, rfl⟩
      go_loopw [5] (fun i wr => ∃ (j : Nat) (cR : Value), j ≤ r.recs.length ∧ i = .int .i64 j ∧ Hid (Ph1 r A c D d w wr h cR cN cN (r.names.map addx) cR ((r.recs.take j).map incR))) (fun i _ => r.recs.length - (intOf i).toNat)
      case atStart => exact ⟨0, .slice none 0 0, Nat.zero_le _, rfl, HPa⟩
      case round =>
        obtain ⟨j, cR, hj, rfl, HP⟩ := hrel
        have q6 : wr.cell? ⟨w.heap.size, 6, none⟩ = some (.slice A r.recs.length c) := HP.out.box.cell 6
        by_cases hlt : j < r.recs.length
        · obtain ⟨b, off, rfl, hb, hcl⟩ := HRC.out (by intro e; rw [e] at hlt; simp at hlt)
          obtain ⟨x, hx⟩ : ∃ x, r.recs[j] = x := ⟨_, rfl⟩
          have RS : Hid (∀ (i : Nat) (v : Value), (recL x)[i]? = some v → wr.cell? ((⟨b, off + j * 7, none⟩ : Addr).add i) = some v) := Lib.hid (fun i v h => by
            rw [add_flat]
            exact (HP.out.low.cell (p := ⟨b, off + j * 7 + i, none⟩) hb).trans (hcl j x (by rw [← hx]; exact List.getElem?_eq_getElem hlt) i v h))
          have HX := Lib.hid hx
          have hok := HRK.out x (by rw [← hx]; exact List.getElem_mem hlt)
          have ho0 := hok.2.1.1
          have ho1 := hok.2.1.2
          clear hcl hb hx hok
          go_upto_region 14 with (first
            | ((with_reducible refine at_op ⟨_, .load 29 (.tmp 47), _, _, _, _⟩ ?_); refine wpList_load_list rfl 29 (.tmp 47) rfl ⟨b, off + j * 7, none⟩ rfl (recL x) RS.out _ Tryd.underlying29 rfl (by kernel_rfl) ?_)
            | ((with_reducible refine at_op ⟨_, .store 29 (.tmp 6) (.tmp 48), _, _, _, _⟩ ?_); refine wpList_store_blk rfl 29 (.tmp 6) (.tmp 48) rfl wr.heap.size 0 rfl (recL x) rfl (recL_one x) 29 rec0 (Blk.new wr 29 rec0) (show 0 + 7 ≤ 7 from Nat.le_refl 7) (by kernel_rfl) ?_; intro w2 hT2 hg2 hs2; have HT2 := Lib.hid hT2; have HG2 := Lib.hid hg2; have HS2 := Lib.hid hs2; clear hT2 hg2 hs2)
            | fail)
          simp only [Act.put]
          go_cut [6] (fun s6 wx => s6 = .pointer (some ⟨wr.heap.size, 0, none⟩) ∧ Hid (Blk wx wr.heap.size 29 (putFrom (putFrom rec0 0 (recL x)) 1 [.int .i64 (inc1 x.off)])) ∧ Hid (w2.grownBy wx (some wr.heap.size)) ∧ Hid (wx.heap.size = w2.heap.size))
          case first =>
            have q1 : w2.cell? ⟨wr.heap.size, 1, none⟩ = some (.int .i64 x.off) := (HT2.out.cell 1).trans (put_rec x 1 _ rfl)
            go_wp2_with (first
              | ((with_reducible refine at_op ⟨_, .store 2 (.tmp 52) (.tmp 51), _, _, _, _⟩ ?_); refine wpList_store_one rfl 2 (.tmp 52) (.tmp 51) rfl wr.heap.size 1 rfl (.int .i64 (inc1 x.off)) rfl rfl rfl 29 (putFrom rec0 0 (recL x)) HT2.out (show 1 + 1 ≤ (putFrom rec0 0 (recL x)).size by rw [putFrom_size]; decide) (by kernel_rfl) ?_; intro w3 hT3 hg3 hs3; have HT3 := Lib.hid hT3; have HG3 := Lib.hid hg3; have HS3 := Lib.hid hs3; clear hT3 hg3 hs3 q1)
              | fail)
            go_meet
            exact ⟨rfl, HT3, HG3, HS3⟩
          case rest =>
            obtain ⟨rfl, HTx, HGx, HSx⟩ := hcut
            have HPc : Hid (Ph1 r (some ⟨b, off, none⟩) c D d w wc h cR cN cN (r.names.map addx) cR ((r.recs.take j).map incR)) := HP.out.below (below_gb (below_gb ((Below.refl _ _).alloc (Nat.le_refl _) _) HG2.out (le_alloc _ (Nat.le_refl _)) (Nat.le_refl _)) HGx.out (by rw [HS2.out]; exact le_alloc _ (Nat.le_refl _)) (Nat.le_refl _))
            obtain ⟨y, hy⟩ : ∃ y, incR x = y := ⟨_, rfl⟩
            have RSy : Hid (∀ (i : Nat) (v : Value), (recL y)[i]? = some v → wc.cell? ((⟨wr.heap.size, 0, none⟩ : Addr).add i) = some v) := by rw [← hy]; exact inc_load HTx.out
            have HY := Lib.hid hy
            have q6c : wc.cell? ⟨h, 6, none⟩ = some cR := HPc.out.cpy.cell 6
            have hjl : ((r.recs.take j).map incR).length = j := by rw [List.length_map, List.length_take]; omega
            have hnb : r.recs.length ≤ 1048576 := Nat.le_trans (lenR_ge _) HR.out
            clear hy HP HG2 HS2 HT2 HGx HSx HTx RS ho0 ho1 q6
            go_wp2_with (first
              | ((with_reducible refine at_op ⟨_, .load 29 (.tmp 6), _, _, _, _⟩ ?_); refine wpList_load_list rfl 29 (.tmp 6) rfl ⟨wr.heap.size, 0, none⟩ rfl [.int .i64 y.kind, .int .i64 y.off, .int .i64 y.time, .int .i64 y.pid, .int .i64 y.seq, .string (S y.key), .string (S y.val)] RSy.out _ Tryd.underlying29 rfl (by kernel_rfl) ?_)
              | ((with_reducible refine at_op ⟨_, .call { callee := .builtin .append, args := #[.tmp 54, .tmp 56], argTypes := #[23, 23] }, _, _, _, _⟩ ?_); refine wpList_append_own (wc.alloc (.cells #[.int .i64 y.kind, .int .i64 y.off, .int .i64 y.time, .int .i64 y.pid, .int .i64 y.seq, .string (S y.key), .string (S y.val)] 29)) rfl (.tmp 54) (.tmp 56) 23 rfl (h + 1) 29 i7 _ 7 72 Tryd.underlying23 hi7 hy0 hy1 hy2 rfl (by decide) _ ((r.recs.take j).map incR).length _ rfl (HPc.out.recs.alloc _) ⟨wc.heap.size, 0, none⟩ 1 1 (recL y) rfl rfl (built_cells wc _ _ _ rfl) (recL_one y) (le_maxLen (by omega)) (by omega) (le_alloc _ HPc.out.cpy.lt) ?_; intro v6 w6 hown6 hg6 _; have HP6 := Lib.hid ((HPc.out.below ((Below.refl _ _).alloc (Nat.le_refl _) _)).addR hown6 hg6); have HC6 := Lib.hid (own_cells hown6); clear hown6 hg6)
              | ((with_reducible refine at_op ⟨_, .store 23 (.tmp 58) (.tmp 57), _, _, _, _⟩ ?_); refine wpList_store_one rfl 23 (.tmp 58) (.tmp 57) rfl h 6 rfl v6 rfl HC6.out.1 HC6.out.2 26 (boxC r cR cN) HP6.out.cpy (show 6 + 1 ≤ 8 by decide) (by kernel_rfl) ?_; intro w7 hT7 hg7 hs7; have HP7 := Lib.hid (HP6.out.setC (by rw [← putR r cR cN]; exact hT7) hg7); clear hT7 hg7 hs7)
              | fail)
            have HP8 : Hid (Ph1 r (some ⟨b, off, none⟩) c D d w w7 h v6 cN cN (r.names.map addx) v6 ((r.recs.take (j + 1)).map incR)) := Lib.hid (by
              rw [List.take_succ_eq_append_getElem hlt, HX.out, List.map_append, List.map_cons, List.map_nil, HY.out]; exact HP7.out)
            clear HP7 HP6 HPc HX HC6 HY RSy
            go_roundw
            case rel => exact ⟨j + 1, v6, by omega, by go_num, HP8⟩
            case measure => simp [intOf]; omega
        · have hja : j = r.recs.length := by omega
          have HPb : Hid (Ph1 r A c D d w wr h cR cN cN (r.names.map addx) cR (r.recs.map incR)) := Lib.hid (by have := HP.out; rw [hja, List.take_length] at this; exact this)
          have s7 : wr.cell? ⟨h, 7, none⟩ = some cN := HPb.out.cpy.cell 7
          have hnb : r.names.length ≤ 1048576 := Nat.le_trans (lenN_ge _) HN.out
          have hrb : r.recs.length ≤ 1048576 := Nat.le_trans (lenR_ge _) HR.out
          have hnl : (r.names.map addx).length = r.names.length := by rw [List.length_map]
          have hrl : (r.recs.map incR).length = r.recs.length := by rw [List.length_map]
          clear hja HP HPa
          go_upto_region 17 with (first
            | ((with_reducible refine at_op ⟨_, .call { callee := .builtin .append, args := #[.tmp 60, .tmp 61], argTypes := #[24, 24] }, _, _, _, _⟩ ?_); refine wpList_append_own (wr.alloc (.cells #[.string ⟨#[47]⟩] 9)) rfl (.tmp 60) (.tmp 61) 24 rfl (h + 1) 9 i0 _ 1 16 Tryd.underlying24 hi0 hz0 hz1 hz2 rfl (by decide) _ (r.names.map addx).length _ rfl (HPb.out.names.alloc _) ⟨wr.heap.size, 0, none⟩ 1 1 (strV [[47]]) rfl rfl (built_cells wr _ _ _ rfl) (strV_one _) (le_maxLen (by omega)) (by omega) (le_alloc _ HPb.out.cpy.lt) ?_; intro v6 w6 hown6 hg6 _; have HP6 := Lib.hid ((HPb.out.below ((Below.refl _ _).alloc (Nat.le_refl _) _)).addN hown6 hg6); have s6 : w6.cell? ⟨h, 6, none⟩ = some cR := HP6.out.cpy.cell 6; clear hown6 hg6)
            | fail)
          clear q6 hlt s7 HPb
          go_upto_region 18 with (first
            | ((with_reducible refine at_op ⟨_, .call { callee := .builtin .append, args := #[.tmp 64, .tmp 66], argTypes := #[23, 23] }, _, _, _, _⟩ ?_); refine wpList_append_own (w6.alloc (.cells #[.int .i64 (-77), .int .i64 0, .int .i64 0, .int .i64 0, .int .i64 0, .string ⟨#[]⟩, .string ⟨#[]⟩] 29)) rfl (.tmp 64) (.tmp 66) 23 rfl (h + 1) 29 i7 _ 7 72 Tryd.underlying23 hi7 hy0 hy1 hy2 rfl (by decide) _ (r.recs.map incR).length _ rfl (HP6.out.recs.alloc _) ⟨w6.heap.size, 0, none⟩ 1 1 (recL markR) rfl rfl (built_cells w6 _ _ _ rfl) (recL_one _) (le_maxLen (by omega)) (by omega) (le_alloc _ HP6.out.cpy.lt) ?_; intro v8 w8 hown8 hg8 _; have HP8 := Lib.hid ((HP6.out.below ((Below.refl _ _).alloc (Nat.le_refl _) _)).addR hown8 hg8); clear hown8 hg8)
            | fail)
          clear s6 HP6
          obtain ⟨bN, kN, bR, kR, hvN, hkN, hkN2, hvR, hkR, hkR2, hP9⟩ := HP8.out.two (by simp) (by simp)
          rw [List.length_append, hnl] at hvN hkN
          rw [List.length_append, hrl] at hvR hkR
          simp only [List.length_cons, List.length_nil, Nat.zero_add] at hvN hkN hvR hkR
          subst hvN hvR
          have HP9 := Lib.hid hP9
          clear HP8 hP9
          have c7 : w8.cell? ⟨w.heap.size, 7, none⟩ = some (.slice D r.names.length d) := HP9.out.box.cell 7
          go_upto_region 20 with (first
            | ((with_reducible refine at_op ⟨_, .store 24 (.tmp 73) (.tmp 72), _, _, _, _⟩ ?_); refine wpList_store_one rfl 24 (.tmp 73) (.tmp 72) rfl h 7 rfl (.slice (some ⟨bN, 0, none⟩) r.names.length kN) rfl rfl rfl 26 (boxC r cR cN) HP9.out.cpy (show 7 + 1 ≤ 8 by decide) (by kernel_rfl) ?_; intro w10 hT10 hg10 hs10; have HP10 := Lib.hid (HP9.out.setC (by rw [← putN r cR cN]; exact hT10) hg10); have c6 : w10.cell? ⟨w.heap.size, 6, none⟩ = some (.slice A r.recs.length c) := HP10.out.box.cell 6; clear hT10 hg10 hs10)
            | ((with_reducible refine at_op ⟨_, .store 23 (.tmp 79) (.tmp 78), _, _, _, _⟩ ?_); refine wpList_store_one rfl 23 (.tmp 79) (.tmp 78) rfl h 6 rfl (.slice (some ⟨bR, 0, none⟩) r.recs.length kR) rfl rfl rfl 26 (boxC r cR (.slice (some ⟨bN, 0, none⟩) r.names.length kN)) HP10.out.cpy (show 6 + 1 ≤ 8 by decide) (by kernel_rfl) ?_; intro w11 hT11 hg11 hs11; have HP11 := Lib.hid (HP10.out.setC (by rw [← putR r cR (.slice (some ⟨bN, 0, none⟩) r.names.length kN)]; exact hT11) hg11); clear hT11 hg11 hs11)
            | fail)
          clear HP9 HP10 c7 c6 hkN hkN2 hkR hkR2
          go_wp2_with (first
            | ((with_reducible refine at_op ⟨_, .load 26 (.tmp 3), _, _, _, _⟩ ?_); refine wpList_load_list rfl 26 (.tmp 3) rfl ⟨h, 0, none⟩ rfl (rspL r (.slice (some ⟨bR, 0, none⟩) r.recs.length kR) (.slice (some ⟨bN, 0, none⟩) r.names.length kN)) (box_load HP11.out.cpy) _ Tryd.underlying26 rfl (by kernel_rfl) ?_)
            | fail)
          obtain ⟨hid0, hid1, hop, hco, hof, hnu⟩ := HIN.out
          refine (show_at r (r.names.map addx) (r.recs.map incR) _ _ hnl hrl (some ⟨bR, 0, none⟩) kR (some ⟨bN, 0, none⟩) kN w11 (tab_below HTAB.out HP11.out.low) (cod_below HCOD.out HP11.out.low) ⟨hid0, hid1⟩ hop hco hof hnu (HP11.out.namesAt rfl) (by rw [lenN_addx]; have := HN.out; omega) (HP11.out.recsAt rfl) (fun y hy => ?_) (by rw [lenR_inc]; have := HR.out; omega)).mono ?_
          · obtain ⟨x, hx, rfl⟩ := List.mem_map.1 hy
            exact incR_ok (HRK.out x hx)
          rintro e w12 ⟨rfl, hb12⟩
          have HP12 := Lib.hid (HP11.out.below hb12)
          clear hb12 HP11 hid0 hid1 hop hco hof hnu
          go_wp2_with fail
          go_loopw [9] (fun i wr => ∃ (j : Nat), j ≤ r.names.length ∧ i = .int .i64 j ∧ Hid (Ph2 r A c D d w wr h (.slice (some ⟨bR, 0, none⟩) r.recs.length kR) (.slice (some ⟨bN, 0, none⟩) r.names.length kN) bN (mix r.names (r.names.map addx) j ++ [[47]]) bR (r.recs.map incR ++ [markR]))) (fun i _ => r.names.length - (intOf i).toNat)
          case atStart => exact ⟨0, Nat.zero_le _, rfl, by rw [mix_zero]; exact HP12⟩
          case round =>
            obtain ⟨j, hj, rfl, HP⟩ := hrel
            have q7 : wr.cell? ⟨w.heap.size, 7, none⟩ = some (.slice D r.names.length d) := HP.out.box.cell 7
            by_cases hlt : j < r.names.length
            · obtain ⟨b, off, rfl, hb, hcl⟩ := HNM.out (by intro e; rw [e] at hlt; simp at hlt)
              obtain ⟨x, hx⟩ : ∃ x, r.names[j] = x := ⟨_, rfl⟩
              have k0 := cell_regrown ((HP.out.low.cell (p := ⟨b, off + j, none⟩) hb).trans (hcl j x (by rw [← hx]; exact List.getElem?_eq_getElem hlt)))
              have k1 := cell_regrown (show wr.cell? ⟨h, 7, none⟩ = some (.slice (some ⟨bN, 0, none⟩) r.names.length kN) from HP.out.cpy.cell 7)
              have k7 := cell_regrown q7
              have HX := Lib.hid hx
              clear hcl hb hx
              go_upto_region 24 with fail
              refine wp_quiet_tail 9 (by kernel_rfl) (by kernel_rfl) (by kernel_rfl) ?_
              simp only [List.take_succ_cons, List.take_zero, List.drop_succ_cons, List.drop_zero]
              repeat (first | go_big_quiet_skip | (go_big_quiet_want; go_big_quiet_op; go_big_quiet_on))
              refine wpQuiet_nil ?_
              intro wq hw'
              obtain ⟨⟨dq, osq⟩, hw''⟩ := hw'
              have HPq := Lib.hid (HP.out.below (w' := wq) (by rw [hw'']; exact below_regrown wr dq osq))
              clear hw'' k0 k1 k7 q7 HP
              obtain ⟨cs, hcs, hhas⟩ := HPq.out.names
              have hml : j < (mix r.names (r.names.map addx) j ++ [[47]]).length := by rw [List.length_append, mix_len _ _ hnl hj]; omega
              have HCS := Lib.hid hcs
              have HHS := Lib.hid hhas
              have HCL : Hid (j + 1 ≤ cs.size) := hhas.lt hml
              have HML := Lib.hid hml
              clear hcs hhas hml
              go_wp2_with (first
                | ((with_reducible refine at_op ⟨_, .store 9 (.tmp 97) (.tmp 96), _, _, _, _⟩ ?_); refine wpList_store_one rfl 9 (.tmp 97) (.tmp 96) rfl bN j rfl (.string (S x)) rfl rfl rfl 9 cs HCS.out HCL.out (by kernel_rfl) ?_; intro w13 hT13 hg13 hs13; have HP13 := Lib.hid (HPq.out.setN hT13 (HHS.out.put HML.out x) hg13); clear hT13 hg13 hs13)
                | fail)
              have HP14 : Hid (Ph2 r A c (some ⟨b, off, none⟩) d w w13 h (.slice (some ⟨bR, 0, none⟩) r.recs.length kR) (.slice (some ⟨bN, 0, none⟩) r.names.length kN) bN (mix r.names (r.names.map addx) (j + 1) ++ [[47]]) bR (r.recs.map incR ++ [markR])) := by
                rw [← mix_set_app _ _ _ hnl hlt, HX.out]; exact HP13
              clear HP13 HPq HX HCS HHS HCL HML
              go_roundw
              case rel => exact ⟨j + 1, by omega, by go_num, HP14⟩
              case measure => simp [intOf]; omega
            · have hja : j = r.names.length := by omega
              have HPa : Hid (Ph2 r A c D d w wr h (.slice (some ⟨bR, 0, none⟩) r.recs.length kR) (.slice (some ⟨bN, 0, none⟩) r.names.length kN) bN (r.names ++ [[47]]) bR (r.recs.map incR ++ [markR])) := Lib.hid (by have := HP.out; rw [hja, mix_full _ _ hnl] at this; exact this)
              clear hja HP
              go_wp2_with fail
              clear q7 hlt HP12
              obtain ⟨w14, rfl⟩ : ∃ w14 : World, w14 = wr := ⟨_, rfl⟩
              go_loopw [10] (fun i wr => ∃ (j : Nat), j ≤ r.recs.length ∧ i = .int .i64 j ∧ Hid (Ph2 r A c D d w wr h (.slice (some ⟨bR, 0, none⟩) r.recs.length kR) (.slice (some ⟨bN, 0, none⟩) r.names.length kN) bN (r.names ++ [[47]]) bR (mix r.recs (r.recs.map incR) j ++ [markR]))) (fun i _ => r.recs.length - (intOf i).toNat)
              case atStart => exact ⟨0, Nat.zero_le _, rfl, by rw [mix_zero]; exact HPa⟩
              case round =>
                obtain ⟨j, hj, rfl, HP⟩ := hrel
                have q6 : wr.cell? ⟨w.heap.size, 6, none⟩ = some (.slice A r.recs.length c) := HP.out.box.cell 6
                by_cases hlt : j < r.recs.length
                · obtain ⟨b, off, rfl, hb, hcl⟩ := HRC.out (by intro e; rw [e] at hlt; simp at hlt)
                  obtain ⟨x, hx⟩ : ∃ x, r.recs[j] = x := ⟨_, rfl⟩
                  have RS : Hid (∀ (i : Nat) (v : Value), (recL x)[i]? = some v → wr.cell? ((⟨b, off + j * 7, none⟩ : Addr).add i) = some v) := Lib.hid (fun i v h => by
                    rw [add_flat]
                    exact (HP.out.low.cell (p := ⟨b, off + j * 7 + i, none⟩) hb).trans (hcl j x (by rw [← hx]; exact List.getElem?_eq_getElem hlt) i v h))
                  have k1 := cell_regrown (show wr.cell? ⟨h, 6, none⟩ = some (.slice (some ⟨bR, 0, none⟩) r.recs.length kR) from HP.out.cpy.cell 6)
                  have k6 := cell_regrown q6
                  have HX := Lib.hid hx
                  clear hcl hb hx
                  go_upto_region 28 with fail
                  refine wp_quiet_tail 9 (by kernel_rfl) (by kernel_rfl) (by kernel_rfl) ?_
                  simp only [List.take_succ_cons, List.take_zero, List.drop_succ_cons, List.drop_zero]
                  repeat (first
                    | ((with_reducible refine at_q ⟨_, .load 29 (.tmp 111), _, _, _, _⟩ ?_); refine wpQuiet_load_list rfl 29 (.tmp 111) rfl ⟨b, off + j * 7, none⟩ rfl (recL x) (fun w' hw' i v h => by obtain ⟨p, hp⟩ := hw'; rw [hp]; exact cell_regrown (RS.out i v h) _ _) _ Tryd.underlying29 rfl (by kernel_rfl) ?_; simp only [Act.put, List.setIfInBounds_toArray, List.set_cons_succ, List.set_cons_zero])
                    | go_big_quiet_skip
                    | (go_big_quiet_want; go_big_quiet_op; go_big_quiet_on))
                  refine wpQuiet_nil ?_
                  intro wq hw'
                  obtain ⟨⟨dq, osq⟩, hw''⟩ := hw'
                  have HPq := Lib.hid (HP.out.below (w' := wq) (by rw [hw'']; exact below_regrown wr dq osq))
                  clear hw'' k1 k6 q6 HP RS
                  obtain ⟨cs, hcs, hhas⟩ := HPq.out.recs
                  have hml : j < (mix r.recs (r.recs.map incR) j ++ [markR]).length := by rw [List.length_append, mix_len _ _ hrl hj]; omega
                  have HCS := Lib.hid hcs
                  have HHS := Lib.hid hhas
                  have HCL : Hid (j * 7 + 7 ≤ cs.size) := hhas.lt hml
                  have HML := Lib.hid hml
                  clear hcs hhas hml
                  go_wp2_with (first
                    | ((with_reducible refine at_op ⟨_, .store 29 (.tmp 113) (.tmp 112), _, _, _, _⟩ ?_); refine wpList_store_blk rfl 29 (.tmp 113) (.tmp 112) rfl bR (j * 7) rfl (recL x) rfl (recL_one x) 29 cs HCS.out HCL.out (by kernel_rfl) ?_; intro w13 hT13 hg13 hs13; have HP13 := Lib.hid (HPq.out.setR hT13 (HHS.out.put HML.out x) hg13); clear hT13 hg13 hs13)
                    | fail)
                  have HP14 : Hid (Ph2 r (some ⟨b, off, none⟩) c D d w w13 h (.slice (some ⟨bR, 0, none⟩) r.recs.length kR) (.slice (some ⟨bN, 0, none⟩) r.names.length kN) bN (r.names ++ [[47]]) bR (mix r.recs (r.recs.map incR) (j + 1) ++ [markR])) := by
                    rw [← mix_set_app _ _ _ hrl hlt, HX.out]; exact HP13
                  clear HP13 HPq HX HCS HHS HCL HML
                  go_roundw
                  case rel => exact ⟨j + 1, by omega, by go_num, HP14⟩
                  case measure => simp [intOf]; omega
                · have hja : j = r.recs.length := by omega
                  have HPb : Hid (Ph2 r A c D d w wr h (.slice (some ⟨bR, 0, none⟩) r.recs.length kR) (.slice (some ⟨bN, 0, none⟩) r.names.length kN) bN (r.names ++ [[47]]) bR (r.recs ++ [markR])) := Lib.hid (by have := HP.out; rw [hja, mix_full _ _ hrl] at this; exact this)
                  clear hja HP HPa
                  go_upto_region 29 with fail
                  clear q6 hlt
                  obtain ⟨w15, rfl⟩ : ∃ w15 : World, w15 = wr := ⟨_, rfl⟩
                  obtain ⟨hid0, hid1, hop, hco, hof, hnu⟩ := HIN.out
                  have hN2 : lenN r.names ≤ 2147483647 := Nat.le_trans HN.out (by decide)
                  have hR2 : lenR r.recs ≤ 2147483647 := Nat.le_trans HR.out (by decide)
                  go_wp2_with (first
                    | ((with_reducible refine at_op ⟨_, .load 26 (.tmp 3), _, _, _, _⟩ ?_); refine wpList_load_list rfl 26 (.tmp 3) rfl ⟨h, 0, none⟩ rfl (rspL r (.slice (some ⟨bR, 0, none⟩) r.recs.length kR) (.slice (some ⟨bN, 0, none⟩) r.names.length kN)) (box_load HPb.out.cpy) _ Tryd.underlying26 rfl (by kernel_rfl) ?_)
                    | fail)
                  refine (show_back r (some ⟨bR, 0, none⟩) kR (some ⟨bN, 0, none⟩) kN w15 (tab_below HTAB.out HPb.out.low) (cod_below HCOD.out HPb.out.low) ⟨hid0, hid1⟩ hop hco hof hnu (HPb.out.namesAt rfl) hN2 (HPb.out.recsAt rfl) HRK.out hR2).mono ?_
                  rintro e w16 ⟨rfl, hb16⟩
                  have HP16 := Lib.hid (HPb.out.below hb16)
                  clear hb16 HPb
                  go_wp2_with (first
                    | ((with_reducible refine at_op ⟨_, .load 26 (.tmp 1), _, _, _, _⟩ ?_); refine wpList_load_list rfl 26 (.tmp 1) rfl ⟨w.heap.size, 0, none⟩ rfl (rspL r (.slice A r.recs.length c) (.slice D r.names.length d)) (box_load HP16.out.box) _ Tryd.underlying26 rfl (by kernel_rfl) ?_)
                    | fail)
                  refine (rshow_back r A c D d w16 ⟨hid0, hid1⟩ hop hco hof hnu (HNM.out.up HP16.out.low) hN2 (HRC.out.up HP16.out.low) HRK.out hR2).mono ?_
                  rintro e w17 ⟨rfl, hb17⟩
                  have HP17 := Lib.hid (HP16.out.below hb17)
                  clear hb17 HP16 hid0 hid1 hop hco hof hnu hN2 hR2
                  obtain ⟨z, hz⟩ : ∃ z, showL r = z := ⟨_, rfl⟩
                  rw [hz]
                  clear hz
                  have b6 : w17.cell? ⟨w.heap.size, 6, none⟩ = some (.slice A r.recs.length c) := HP17.out.box.cell 6
                  have b7 : w17.cell? ⟨w.heap.size, 7, none⟩ = some (.slice D r.names.length d) := HP17.out.box.cell 7
                  have c6 : w17.cell? ⟨h, 6, none⟩ = some (.slice (some ⟨bR, 0, none⟩) r.recs.length kR) := HP17.out.cpy.cell 6
                  have c7 : w17.cell? ⟨h, 7, none⟩ = some (.slice (some ⟨bN, 0, none⟩) r.names.length kN) := HP17.out.cpy.cell 7
                  obtain ⟨cs, hcs, hhas⟩ := HP17.out.names
                  have s47 : w17.cell? ⟨bN, r.names.length, none⟩ = some (.string ⟨#[47]⟩) := (hcs.cell _).trans (hhas r.names.length [47] (by simp))
                  obtain ⟨ct, hct, hhat⟩ := HP17.out.recs
                  have s77 : w17.cell? ⟨bR, r.recs.length * 7, none⟩ = some (.int .i64 (-77)) := (hct.cell _).trans (hhat r.recs.length markR (by simp) 0 _ rfl)
                  clear hcs hhas hct hhat
                  go_wp2_with fail
                  clear b6 b7 c6 c7 s47 s77
                  go_loopw [12] (fun i wr => ∃ (j : Nat), j ≤ r.names.length ∧ i = .int .i64 j ∧ Hid (Ph2 r A c D d w wr h (.slice (some ⟨bR, 0, none⟩) r.recs.length kR) (.slice (some ⟨bN, 0, none⟩) r.names.length kN) bN (r.names ++ [[47]]) bR (r.recs ++ [markR]))) (fun i _ => r.names.length - (intOf i).toNat)
                  case atStart => exact ⟨0, Nat.zero_le _, rfl, HP17⟩
                  case round =>
                    obtain ⟨j, hj, rfl, HP⟩ := hrel
                    have q7 : wr.cell? ⟨w.heap.size, 7, none⟩ = some (.slice D r.names.length d) := HP.out.box.cell 7
                    by_cases hlt : j < r.names.length
                    · obtain ⟨b, off, rfl, hb, hcl⟩ := HNM.out (by intro e; rw [e] at hlt; simp at hlt)
                      obtain ⟨x, hx⟩ : ∃ x, r.names[j] = x := ⟨_, rfl⟩
                      have k0 := cell_regrown ((HP.out.low.cell (p := ⟨b, off + j, none⟩) hb).trans (hcl j x (by rw [← hx]; exact List.getElem?_eq_getElem hlt)))
                      have k1 := cell_regrown (show wr.cell? ⟨h, 7, none⟩ = some (.slice (some ⟨bN, 0, none⟩) r.names.length kN) from HP.out.cpy.cell 7)
                      have k7 := cell_regrown q7
                      obtain ⟨cs, hcs, hhas⟩ := HP.out.names
                      have k2 := cell_regrown (show wr.cell? ⟨bN, j, none⟩ = some (.string (S x)) from (hcs.cell j).trans (hhas j x (by rw [List.getElem?_append_left hlt, ← hx]; exact List.getElem?_eq_getElem hlt)))
                      clear hcl hb hx hcs hhas
                      go_upto_region 35 with fail
                      refine wp_region_quiet_below (by kernel_rfl) (by kernel_rfl) ?_
                      repeat (first | go_big_quiet_skip | (go_big_quiet_want; go_big_quiet_op; go_big_quiet_on))
                      refine wpQuiet_nil ?_
                      intro _ hw'
                      obtain ⟨⟨dq, osq⟩, hw''⟩ := hw'
                      subst hw''
                      have HP14 := Lib.hid (HP.out.below (below_regrown wr dq osq))
                      clear HP k0 k1 k2 k7 q7
                      go_wp2_with fail
                      go_roundw
                      case rel => exact ⟨j + 1, by omega, by go_num, HP14⟩
                      case measure => simp [intOf]; omega
                    · have hja : j = r.names.length := by omega
                      have HPa := HP
                      clear hja HP
                      go_wp2_with fail
                      clear q7 hlt HP17
                      obtain ⟨w18, rfl⟩ : ∃ w18 : World, w18 = wr := ⟨_, rfl⟩
                      go_loopw [13] (fun i wr => ∃ (j : Nat), j ≤ r.recs.length ∧ i = .int .i64 j ∧ Hid (Ph2 r A c D d w wr h (.slice (some ⟨bR, 0, none⟩) r.recs.length kR) (.slice (some ⟨bN, 0, none⟩) r.names.length kN) bN (r.names ++ [[47]]) bR (r.recs ++ [markR]))) (fun i _ => r.recs.length - (intOf i).toNat)
                      case atStart => exact ⟨0, Nat.zero_le _, rfl, HPa⟩
                      case round =>
                        obtain ⟨j, hj, rfl, HP⟩ := hrel
                        have q6 : wr.cell? ⟨w.heap.size, 6, none⟩ = some (.slice A r.recs.length c) := HP.out.box.cell 6
                        by_cases hlt : j < r.recs.length
                        · obtain ⟨b, off, rfl, hb, hcl⟩ := HRC.out (by intro e; rw [e] at hlt; simp at hlt)
                          obtain ⟨x, hx⟩ : ∃ x, r.recs[j] = x := ⟨_, rfl⟩
                          have RS : Hid (∀ (i : Nat) (v : Value), (recL x)[i]? = some v → wr.cell? ((⟨b, off + j * 7, none⟩ : Addr).add i) = some v) := Lib.hid (fun i v h => by
                            rw [add_flat]
                            exact (HP.out.low.cell (p := ⟨b, off + j * 7 + i, none⟩) hb).trans (hcl j x (by rw [← hx]; exact List.getElem?_eq_getElem hlt) i v h))
                          obtain ⟨cs, hcs, hhas⟩ := HP.out.recs
                          have RT : Hid (∀ (i : Nat) (v : Value), (recL x)[i]? = some v → wr.cell? ((⟨bR, j * 7, none⟩ : Addr).add i) = some v) := Lib.hid (fun i v h => by
                            rw [add_flat]
                            exact (hcs.cell _).trans (hhas j x (by rw [List.getElem?_append_left hlt, ← hx]; exact List.getElem?_eq_getElem hlt) i v h))
                          have k1 := cell_regrown (show wr.cell? ⟨h, 6, none⟩ = some (.slice (some ⟨bR, 0, none⟩) r.recs.length kR) from HP.out.cpy.cell 6)
                          have k6 := cell_regrown q6
                          clear hcl hb hx hcs hhas
                          go_upto_region 40 with fail
                          refine wp_region_quiet_below (by kernel_rfl) (by kernel_rfl) ?_
                          repeat (first
                            | ((with_reducible refine at_q ⟨_, .load 29 (.tmp 185), _, _, _, _⟩ ?_); refine wpQuiet_load_list rfl 29 (.tmp 185) rfl ⟨bR, j * 7, none⟩ rfl [.int .i64 x.kind, .int .i64 x.off, .int .i64 x.time, .int .i64 x.pid, .int .i64 x.seq, .string (S x.key), .string (S x.val)] (fun w' hw' i v h => by obtain ⟨p, hp⟩ := hw'; rw [hp]; exact cell_regrown (RT.out i v h) _ _) _ Tryd.underlying29 rfl (by kernel_rfl) ?_; simp only [Act.put, List.setIfInBounds_toArray, List.set_cons_succ, List.set_cons_zero])
                            | ((with_reducible refine at_q ⟨_, .load 29 (.tmp 190), _, _, _, _⟩ ?_); refine wpQuiet_load_list rfl 29 (.tmp 190) rfl ⟨b, off + j * 7, none⟩ rfl [.int .i64 x.kind, .int .i64 x.off, .int .i64 x.time, .int .i64 x.pid, .int .i64 x.seq, .string (S x.key), .string (S x.val)] (fun w' hw' i v h => by obtain ⟨p, hp⟩ := hw'; rw [hp]; exact cell_regrown (RS.out i v h) _ _) _ Tryd.underlying29 rfl (by kernel_rfl) ?_; simp only [Act.put, List.setIfInBounds_toArray, List.set_cons_succ, List.set_cons_zero])
                            | go_big_quiet_skip
                            | (go_big_quiet_want; go_big_quiet_op; go_big_quiet_on))
                          refine wpQuiet_nil ?_
                          intro _ hw'
                          obtain ⟨⟨dq, osq⟩, hw''⟩ := hw'
                          subst hw''
                          have HP14 := Lib.hid (HP.out.below (below_regrown wr dq osq))
                          clear HP k1 k6 q6 RS RT
                          go_wp2_with fail
                          go_roundw
                          case rel => exact ⟨j + 1, by omega, by go_num, HP14⟩
                          case measure => simp [intOf]; omega
                        · have hja : j = r.recs.length := by omega
                          clear hja
                          go_wp2_with fail
                          go_ret
                          exact ⟨rfl, HP.out.low⟩
end Go.Proofs.YtepalbldleegiaaDoor.sh
