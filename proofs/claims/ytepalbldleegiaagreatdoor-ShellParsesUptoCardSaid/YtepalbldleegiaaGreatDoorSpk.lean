/-
  The program's cut of a line at its blanks: walked.
  Conditions: a line of at most 4096 bytes.
-/
import Derived.Test.YtepalbldleegiaaGreatDoorSpj
import Derived.Lib.OthersKept
import Derived.Lib.SpaceUEq
namespace Go.Proofs.YtepalbldleegiaaGreatDoor.sh
open Go.RowKit
open Go.Lib (itoa decDigits byteCells atoiAll)

theorem getD_S (l : Bs) (i : Nat) (h : i < l.length) : ((S l).data.toList.getD i 0) = l[i] := by
  show l.getD i 0 = _
  simp [List.getD, h]
/-- one rune: an ASCII byte, or bytes that are none -/
theorem dec_step (l : Bs) (i : Nat) (hi : i < l.length) :
    (l[i].toNat < 128 ∧ Utf8.decode (S l) i = (l[i].toNat, 1)) ∨
    (128 ≤ (Utf8.decode (S l) i).1 ∧ 1 ≤ (Utf8.decode (S l) i).2 ∧ i + (Utf8.decode (S l) i).2 ≤ l.length ∧ ∀ j (hj : j < l.length), i ≤ j → j < i + (Utf8.decode (S l) i).2 → 128 ≤ l[j].toNat) := by
  have h0 : ((S l).data.toList.getD i 0).toNat = l[i].toNat := by rw [getD_S l i hi]
  have hlen : (S l).data.toList.length = l.length := rfl
  rw [Lib.decode_N, h0, hlen]
  have hc := Lib.decodeN_conts (l.length - i) l[i].toNat ((S l).data.toList.getD (i + 1) 0).toNat ((S l).data.toList.getD (i + 2) 0).toNat ((S l).data.toList.getD (i + 3) 0).toNat
  have h1 := Lib.decodeN_ge1 (l.length - i) l[i].toNat ((S l).data.toList.getD (i + 1) 0).toNat ((S l).data.toList.getD (i + 2) 0).toNat ((S l).data.toList.getD (i + 3) 0).toNat
  have hcs := Lib.decodeN_cases (l.length - i) l[i].toNat ((S l).data.toList.getD (i + 1) 0).toNat ((S l).data.toList.getD (i + 2) 0).toNat ((S l).data.toList.getD (i + 3) 0).toNat
  by_cases ha : l[i].toNat < 128
  · exact Or.inl ⟨ha, Lib.decodeN_ascii _ _ _ _ _ ha⟩
  · refine Or.inr ?_
    have hv : 128 ≤ (Lib.decodeN (l.length - i) l[i].toNat ((S l).data.toList.getD (i + 1) 0).toNat ((S l).data.toList.getD (i + 2) 0).toNat ((S l).data.toList.getD (i + 3) 0).toNat).1 := by
      rcases hcs with ⟨h, -⟩ | ⟨-, -, -, h, e⟩ | ⟨-, -, -, -, h, e⟩ | ⟨h, -⟩ | e
      · exact absurd h ha
      · rw [e]; exact h
      · rw [e]; simp only; omega
      · omega
      · rw [e]; decide
    obtain ⟨c2, c3, c4, hle⟩ := hc
    generalize hd : Lib.decodeN (l.length - i) l[i].toNat ((S l).data.toList.getD (i + 1) 0).toNat ((S l).data.toList.getD (i + 2) 0).toNat ((S l).data.toList.getD (i + 3) 0).toNat = d at *
    refine ⟨hv, h1, ?_, ?_⟩
    · by_cases h4 : 4 ≤ d.2
      · have := c4 h4; omega
      · by_cases h3 : 3 ≤ d.2
        · have := c3 h3; omega
        · by_cases h2 : 2 ≤ d.2
          · have := c2 h2; omega
          · omega
    · intro j hj hij hjd
      rcases (by omega : j = i ∨ j = i + 1 ∨ j = i + 2 ∨ j = i + 3) with rfl | rfl | rfl | rfl
      · omega
      · have := c2 (by omega)
        rw [getD_S l _ hj] at this
        omega
      · have := c3 (by omega)
        rw [getD_S l _ hj] at this
        omega
      · have := c4 (by omega)
        rw [getD_S l _ hj] at this
        omega
theorem step_high (q e : Bool) (c : UInt8) (h : 128 ≤ c.toNat) : step q e c = some (q, false) := by
  have h1 : (c == 92) = false := by rw [beq_eq_false_iff_ne]; intro e; subst e; exact absurd h (by decide)
  have h2 : (c == 34) = false := by rw [beq_eq_false_iff_ne]; intro e; subst e; exact absurd h (by decide)
  have h3 : (c == 32) = false := by rw [beq_eq_false_iff_ne]; intro e; subst e; exact absurd h (by decide)
  unfold step
  rw [h1, h2, h3]
  cases e <;> cases q <;> rfl
theorem cut_high : ∀ (bs : Bs) (cur : Bs) (q e : Bool) (s : Bs), bs ≠ [] → (∀ c ∈ bs, 128 ≤ c.toNat) → cutL cur q e (bs ++ s) = cutL (cur ++ bs) q false s
  | [], _, _, _, _, h, _ => absurd rfl h
  | [c], cur, q, e, s, _, h => by
    simp only [List.cons_append, List.nil_append, cutL, step_high q e c (h c (by simp))]
  | c :: d :: bs, cur, q, e, s, _, h => by
    have := cut_high (d :: bs) (cur ++ [c]) q false s (by simp) fun x hx => h x (List.mem_cons_of_mem _ hx)
    rw [List.cons_append, cutL, step_high q e c (h c (by simp))]
    simp only
    rw [this, List.append_assoc]
    rfl
theorem take_drop_app (l : Bs) (fr i k : Nat) (h1 : fr ≤ i) (h2 : i + k ≤ l.length) : (l.take i).drop fr ++ (l.drop i).take k = (l.take (i + k)).drop fr := by
  rw [List.take_add, List.drop_append_of_le_length (by rw [List.length_take]; omega)]
/-- the parts in a row of the callee's own -/
def GivesP (w : World) (o : List Bs) (e : Ending) (w' : World) : Prop := ∃ v, e = .returned v ∧ w'.ownsRow w.heap.size 9 1 v o.length (strV o) ∧ Below w.heap.size w w'
theorem own_iter {w : World} {B : Nat} {e : TypeId} {s : Nat} {v : Value} {n : Nat} {xs : List Value} {k : Nat} {b : ByteArray} {p p' : Nat} (h : w.ownsRow B e s v n xs) (hk : w.heap[k]? = some (.stringIter b p)) : (w.iterAt k b p').ownsRow B e s v n xs := by
  refine h.kept (row := some k) ⟨rfl, rfl, rfl, by rw [Lib.iterAt_size]; exact Nat.le_refl _, fun i _ hn => Lib.iterAt_other w k i b p' (fun e => hn (by rw [e]))⟩ ?_
  rcases h.2 with ⟨rfl, -⟩ | ⟨g, cap, cur, rfl, -, hg, -⟩
  · exact Or.inl rfl
  · refine Or.inr fun e0 => ?_
    simp only [Value.ownBlock, Option.some.injEq] at e0
    subst e0
    rw [hk] at hg
    cases hg

set_option maxRecDepth 100000 in
set_option maxHeartbeats 8000000 in
theorem cut_any (l : Bs) (hl : l.length ≤ 4096) (w : World) : Calls Tryz.prog 30 #[.string (S l)] w (GivesP w (cutL [] false false l)) := by
  obtain ⟨i0, hi, hz0, hz1, hz2⟩ := info_parts infoStr
  have hsz : (S l).size = l.length := S_size _
  obtain ⟨res, hres⟩ : ∃ x, cutL [] false false l = x := ⟨_, rfl⟩
  rw [hres]
  have HRES := Lib.hid hres
  clear hres
  go_enter Tryz.func30, Tryz.ntmps30
  go_wp2_with fail
  go_loopw [3, 4, 5, 6] (fun s3 s4 s5 s6 wr => ∃ (pos fr : Nat) (q e : Bool) (dn : List Bs), fr ≤ pos ∧ pos ≤ l.length ∧ s4 = .int .i64 (fr : Int) ∧ s5 = .bool q ∧ s6 = .bool e ∧ dn.length ≤ pos ∧ Hid (res = dn ++ cutL ((l.take pos).drop fr) q e (l.drop pos)) ∧ Hid (wr.heap[w.heap.size]? = some (.stringIter (S l) pos)) ∧ Hid (wr.ownsRow w.heap.size 9 1 s3 dn.length (strV dn)) ∧ Hid (Below w.heap.size w wr)) (fun _ _ _ _ wr => l.length - wr.iterPos w.heap.size)
  case atStart =>
    refine ⟨0, 0, false, false, [], Nat.le_refl _, Nat.zero_le _, rfl, rfl, rfl, Nat.le_refl _, Lib.hid (by rw [← HRES.out]; simp), Lib.hid (World.iter_heap w (S l) 0), own_nilV _ _ _ _, Lib.hid ?_⟩
    exact (Below.refl _ w).alloc (Nat.le_refl _) _
  case round =>
    obtain ⟨pos, fr, q, e, dn, hfp, hpl, rfl, rfl, rfl, hdn, HR, HIT, HO, HB⟩ := hrel
    have HIP : Hid (wr.iterPos w.heap.size = pos) := Lib.hid (by simp only [World.iterPos, HIT.out])
    by_cases hlt : pos < l.length
    · obtain ⟨rn, hrn⟩ : ∃ x, (Utf8.decode (S l) pos).1 = x := ⟨_, rfl⟩
      obtain ⟨dw, hdw⟩ : ∃ x, (Utf8.decode (S l) pos).2 = x := ⟨_, rfl⟩
      have hds := dec_step l pos hlt
      have hnx0 : ∀ ty, (Instr.next (.pointer (some ⟨w.heap.size, 0, none⟩)) true ty).run Tryz.prog wr = _ := fun ty => Lib.run_next_any_at wr w.heap.size (S l) pos ty HIT.out (by rw [S_size]; exact hlt)
      rw [hrn, hdw] at hnx0
      have hit5 := Lib.iterAt_heap wr w.heap.size (S l) pos (pos + dw) HIT.out
      have ho5 := own_iter (p' := pos + dw) HO.out HIT.out
      have hb5 := Lib.below_iterAt HB.out (k := w.heap.size) (Nat.le_refl _) (S l) (pos + dw)
      generalize hw5 : wr.iterAt w.heap.size (S l) (pos + dw) = w5 at hnx0 hit5 ho5 hb5
      have HIT5 := Lib.hid hit5
      have HO5 := Lib.hid ho5
      have HB5 := Lib.hid hb5
      have HIP5 : Hid (w5.iterPos w.heap.size = pos + dw) := Lib.hid (by simp only [World.iterPos, hit5])
      clear hw5 hit5 ho5 hb5
      rcases hds with ⟨hasc, hdec⟩ | ⟨hr128, hd1, hdl, hhigh⟩
      · obtain ⟨c, hc⟩ : ∃ c, l[pos] = c := ⟨_, rfl⟩
        rw [hc] at hasc hdec
        rw [hdec] at hrn hdw
        simp only at hrn hdw
        subst hrn hdw
        have hdrop : l.drop pos = c :: l.drop (pos + 1) := by rw [← hc, ← List.drop_eq_getElem_cons hlt]
        have htk : (l.take pos).drop fr ++ [c] = (l.take (pos + 1)).drop fr := by
          have := take_drop_app l fr pos 1 hfp (by omega)
          rwa [hdrop, List.take_succ_cons, List.take_zero] at this
        have HST : Hid (∀ q' e', step q e c = some (q', e') → res = dn ++ cutL ((l.take (pos + 1)).drop fr) q' e' (l.drop (pos + 1))) := Lib.hid fun q' e' h => by
          rw [HR.out, hdrop, cutL, h]
          simp only
          rw [htk]
        have HSN : Hid (step q e c = none → res = (dn ++ [(l.take pos).drop fr]) ++ cutL ((l.take (pos + 1)).drop (pos + 1)) false false (l.drop (pos + 1))) := Lib.hid fun h => by
          rw [HR.out, hdrop, cutL, h]
          simp only
          rw [List.drop_of_length_le (l := l.take (pos + 1)) (by rw [List.length_take]; omega)]
          simp
        have hnx := hnx0
        clear hnx0 hdec hc hdrop htk
        cases e with
        | true =>
          have HRN : Hid (res = _) := Lib.hid (HST.out q false (by unfold step; rfl))
          clear HST HSN
          go_wp2_with fail
          go_roundw
          case rel => exact ⟨pos + 1, fr, q, false, dn, by omega, by omega, rfl, rfl, rfl, by omega, HRN, HIT5, HO5, HB5⟩
          case measure => rw [HIP5.out, HIP.out]; omega
        | false =>
          cases q with
          | true =>
            by_cases h92 : c = 92
            · subst h92
              have hnx' : ∀ ty, (Instr.next (.pointer (some ⟨w.heap.size, 0, none⟩)) true ty).run Tryz.prog wr = .ok (.tuple #[.bool true, .int .i64 (pos : Int), .int .i32 92]) w5 := hnx
              clear hnx
              have HRN : Hid (res = _) := Lib.hid (HST.out true true (by rfl))
              clear HST HSN
              go_wp2_with fail
              go_roundw
              case rel => exact ⟨pos + 1, fr, true, true, dn, by omega, by omega, rfl, rfl, rfl, by omega, HRN, HIT5, HO5, HB5⟩
              case measure => rw [HIP5.out, HIP.out]; omega
            by_cases h34 : c = 34
            · subst h34
              have hnx' : ∀ ty, (Instr.next (.pointer (some ⟨w.heap.size, 0, none⟩)) true ty).run Tryz.prog wr = .ok (.tuple #[.bool true, .int .i64 (pos : Int), .int .i32 34]) w5 := hnx
              clear hnx
              have HRN : Hid (res = _) := Lib.hid (HST.out false false (by rfl))
              clear HST HSN
              go_wp2_with fail
              go_roundw
              case rel => exact ⟨pos + 1, fr, false, false, dn, by omega, by omega, rfl, rfl, rfl, by omega, HRN, HIT5, HO5, HB5⟩
              case measure => rw [HIP5.out, HIP.out]; omega
            by_cases h32 : c = 32
            · subst h32
              have hnx' : ∀ ty, (Instr.next (.pointer (some ⟨w.heap.size, 0, none⟩)) true ty).run Tryz.prog wr = .ok (.tuple #[.bool true, .int .i64 (pos : Int), .int .i32 32]) w5 := hnx
              clear hnx
              have HRN : Hid (res = _) := Lib.hid (HST.out true false (by rfl))
              clear HST HSN
              go_wp2_with fail
              go_roundw
              case rel => exact ⟨pos + 1, fr, true, false, dn, by omega, by omega, rfl, rfl, rfl, by omega, HRN, HIT5, HO5, HB5⟩
              case measure => rw [HIP5.out, HIP.out]; omega
            have m92 : ((c.toNat : Int) == 92) = false := by
              rw [beq_eq_false_iff_ne]
              intro h
              exact h92 ((u8_eq c 92 (by decide)).1 (by omega))
            have s92 : (c == 92) = false := by rw [beq_eq_false_iff_ne]; exact h92
            have m34 : ((c.toNat : Int) == 34) = false := by
              rw [beq_eq_false_iff_ne]
              intro h
              exact h34 ((u8_eq c 34 (by decide)).1 (by omega))
            have s34 : (c == 34) = false := by rw [beq_eq_false_iff_ne]; exact h34
            have m32 : ((c.toNat : Int) == 32) = false := by
              rw [beq_eq_false_iff_ne]
              intro h
              exact h32 ((u8_eq c 32 (by decide)).1 (by omega))
            have s32 : (c == 32) = false := by rw [beq_eq_false_iff_ne]; exact h32
            have HRN : Hid (res = _) := Lib.hid (HST.out true false (by unfold step; rw [s92, s34, s32]; rfl))
            clear HST HSN
            go_wp2_with fail
            go_roundw
            case rel => exact ⟨pos + 1, fr, true, false, dn, by omega, by omega, rfl, rfl, rfl, by omega, HRN, HIT5, HO5, HB5⟩
            case measure => rw [HIP5.out, HIP.out]; omega
          | false =>
            by_cases h34 : c = 34
            · subst h34
              have hnx' : ∀ ty, (Instr.next (.pointer (some ⟨w.heap.size, 0, none⟩)) true ty).run Tryz.prog wr = .ok (.tuple #[.bool true, .int .i64 (pos : Int), .int .i32 34]) w5 := hnx
              clear hnx
              have HRN : Hid (res = _) := Lib.hid (HST.out true false (by rfl))
              clear HST HSN
              go_wp2_with fail
              go_roundw
              case rel => exact ⟨pos + 1, fr, true, false, dn, by omega, by omega, rfl, rfl, rfl, by omega, HRN, HIT5, HO5, HB5⟩
              case measure => rw [HIP5.out, HIP.out]; omega
            by_cases h32 : c = 32
            · subst h32
              have hnx' : ∀ ty, (Instr.next (.pointer (some ⟨w.heap.size, 0, none⟩)) true ty).run Tryz.prog wr = .ok (.tuple #[.bool true, .int .i64 (pos : Int), .int .i32 32]) w5 := hnx
              clear hnx
              have HRN : Hid (res = _) := Lib.hid (HSN.out (by rfl))
              have hsl := S_slice l fr pos hfp (by omega)
              obtain ⟨x, hx⟩ : ∃ x, (l.take pos).drop fr = x := ⟨_, rfl⟩
              rw [hx] at hsl
              have HRX : Hid (res = (dn ++ [x]) ++ cutL ((l.take (pos + 1)).drop (pos + 1)) false false (l.drop (pos + 1))) := Lib.hid (by rw [HRN.out, hx])
              clear HST HSN hx HRN
              go_wp2_with (at_builtin; refine wpList_append_own _ rfl _ _ 43 rfl w.heap.size 9 i0 (.string ⟨#[]⟩) 1 16 Tryz.underlying43 hi hz0 hz1 hz2 rfl (by decide) _ _ _ rfl (HO5.out.alloc _) ⟨w5.heap.size, 0, none⟩ 1 1 [.string (S x)] rfl rfl ?c1 ?c2 ?c3 ?c4 ?c5 ?_)
              case c1 =>
                intro j u hj
                match j, hj with
                | 0, hj => simp at hj; subst hj; simp [Addr.add]
              case c2 => intro u hu; simp at hu; subst hu; rfl
              case c3 => unfold maxLen; omega
              case c4 => omega
              case c5 => have := HB5.out.size; simp; omega
              intro v' w2 hown' hgrow _
              have HB2 : Hid (Below w.heap.size w w2) := (HB5.out.alloc HB5.out.size _).grown hgrow (by have := HB5.out.size; simp; omega) (fun k hk => (HO5.out.lt k hk).1)
              have hil : w.heap.size < w5.heap.size := (Array.getElem?_eq_some_iff.1 HIT5.out).1
              have hik : Value.ownBlock u3 ≠ some w.heap.size := by
                rcases HO5.out.2 with ⟨rfl, -⟩ | ⟨g, cap, cur, rfl, -, hg, -⟩
                · simp [Value.ownBlock]
                · intro e0
                  simp only [Value.ownBlock, Option.some.injEq] at e0
                  subst e0
                  have := HIT5.out
                  rw [this] at hg
                  cases hg
              have HIT2 : Hid (w2.heap[w.heap.size]? = some (.stringIter (S l) (pos + 1))) := Lib.hid (by
                rw [hgrow.block w.heap.size (by rw [World.size_alloc]; omega) (fun e => hik e.symm), show (w5.alloc _).heap[w.heap.size]? = w5.heap[w.heap.size]? from Below.heap_alloc _ _ _ hil]
                exact HIT5.out)
              have HIP2 : Hid (w2.iterPos w.heap.size = pos + 1) := Lib.hid (by simp only [World.iterPos, HIT2.out])
              have HO2 : Hid (w2.ownsRow w.heap.size 9 1 v' (dn ++ [x]).length (strV (dn ++ [x]))) := Lib.hid (by
                rw [List.length_append, strV_append]
                exact hown')
              clear hown' hgrow hil hik
              go_wp2_with fail
              go_roundw
              case rel => exact ⟨pos + 1, pos + 1, false, false, dn ++ [x], Nat.le_refl _, by omega, by go_num, rfl, rfl, by rw [List.length_append]; simp; omega, HRX, HIT2, HO2, HB2⟩
              case measure => rw [HIP2.out, HIP.out]; omega
            have m34 : ((c.toNat : Int) == 34) = false := by
              rw [beq_eq_false_iff_ne]
              intro h
              exact h34 ((u8_eq c 34 (by decide)).1 (by omega))
            have s34 : (c == 34) = false := by rw [beq_eq_false_iff_ne]; exact h34
            have m32 : ((c.toNat : Int) == 32) = false := by
              rw [beq_eq_false_iff_ne]
              intro h
              exact h32 ((u8_eq c 32 (by decide)).1 (by omega))
            have s32 : (c == 32) = false := by rw [beq_eq_false_iff_ne]; exact h32
            have HRN : Hid (res = _) := Lib.hid (HST.out false false (by unfold step; rw [s34, s32]; rfl))
            clear HST HSN
            go_wp2_with fail
            go_roundw
            case rel => exact ⟨pos + 1, fr, false, false, dn, by omega, by omega, rfl, rfl, rfl, by omega, HRN, HIT5, HO5, HB5⟩
            case measure => rw [HIP5.out, HIP.out]; omega
      · have hdrop : l.drop pos = (l.drop pos).take dw ++ l.drop (pos + dw) := by
          rw [← List.drop_drop, List.take_append_drop]
        rw [hdw] at hd1 hdl hhigh
        rw [hrn] at hr128
        have hbs : ∀ x ∈ (l.drop pos).take dw, 128 ≤ x.toNat := by
          intro x hx
          obtain ⟨j, hj, rfl⟩ := List.mem_iff_getElem.1 hx
          rw [List.length_take, List.length_drop] at hj
          rw [List.getElem_take, List.getElem_drop]
          exact hhigh (pos + j) (by omega) (by omega) (by omega)
        have hne : (l.drop pos).take dw ≠ [] := by
          intro h
          have := congrArg List.length h
          rw [List.length_take, List.length_drop, List.length_nil] at this
          omega
        have HRN : Hid (res = dn ++ cutL ((l.take (pos + dw)).drop fr) q false (l.drop (pos + dw))) := Lib.hid (by
          rw [HR.out, hdrop, cut_high _ _ _ _ _ hne hbs, take_drop_app l fr pos dw hfp hdl])
        have hnx := hnx0
        have n1 : ((rn : Int) == 92) = false := by rw [beq_eq_false_iff_ne]; omega
        have n2 : ((rn : Int) == 34) = false := by rw [beq_eq_false_iff_ne]; omega
        have n3 : ((rn : Int) == 32) = false := by rw [beq_eq_false_iff_ne]; omega
        clear hnx0 hdrop hbs hne hhigh hr128 hrn hdw
        cases e with
        | true =>
          go_wp2_with fail
          go_roundw
          case rel => exact ⟨pos + dw, fr, q, false, dn, by omega, hdl, rfl, rfl, rfl, by omega, HRN, HIT5, HO5, HB5⟩
          case measure => rw [HIP5.out, HIP.out]; omega
        | false =>
          cases q with
          | true =>
            go_wp2_with fail
            go_roundw
            case rel => exact ⟨pos + dw, fr, true, false, dn, by omega, hdl, rfl, rfl, rfl, by omega, HRN, HIT5, HO5, HB5⟩
            case measure => rw [HIP5.out, HIP.out]; omega
          | false =>
            go_wp2_with fail
            go_roundw
            case rel => exact ⟨pos + dw, fr, false, false, dn, by omega, hdl, rfl, rfl, rfl, by omega, HRN, HIT5, HO5, HB5⟩
            case measure => rw [HIP5.out, HIP.out]; omega
    · obtain rfl : pos = l.length := by omega
      have hnx : ∀ ty, (Instr.next (.pointer (some ⟨w.heap.size, 0, none⟩)) true ty).run Tryz.prog wr = _ := fun ty => Lib.run_next_end_at wr w.heap.size (S l) l.length ty HIT.out (by rw [S_size]; omega)
      have HF : Hid (res = dn ++ [l.drop fr]) := Lib.hid (by rw [HR.out, List.take_length, List.drop_length]; rfl)
      have hsl := S_from l fr hfp
      go_wp2_with (at_builtin; refine wpList_append_own _ rfl _ _ 43 rfl w.heap.size 9 i0 (.string ⟨#[]⟩) 1 16 Tryz.underlying43 hi hz0 hz1 hz2 rfl (by decide) _ _ _ rfl (HO.out.alloc _) ⟨wr.heap.size, 0, none⟩ 1 1 [.string (S (l.drop fr))] rfl rfl ?c1 ?c2 ?c3 ?c4 ?c5 ?_)
      case c1 =>
        intro j u hj
        match j, hj with
        | 0, hj => simp at hj; subst hj; simp [Addr.add]
      case c2 => intro u hu; simp at hu; subst hu; rfl
      case c3 => unfold maxLen; omega
      case c4 => omega
      case c5 => have := HB.out.size; simp; omega
      intro v' w2 hown' hgrow _
      have HB2 : Hid (Below w.heap.size w w2) := (HB.out.alloc HB.out.size _).grown hgrow (by have := HB.out.size; simp; omega) (fun k hk => (HO.out.lt k hk).1)
      have HO2 : Hid (w2.ownsRow w.heap.size 9 1 v' (dn ++ [l.drop fr]).length (strV (dn ++ [l.drop fr]))) := Lib.hid (by
        rw [List.length_append, strV_append]
        exact hown')
      clear hown' hgrow
      go_wp2_with fail
      go_ret
      rw [HF.out]
      exact ⟨_, rfl, HO2.out, HB2.out⟩
end Go.Proofs.YtepalbldleegiaaGreatDoor.sh
