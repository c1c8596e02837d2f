/-
  The program's bytes out of digits: walked.
  Conditions: at most 4096 digits.
-/
import Derived.Test.YtepalbldleegiaaGreatDoorSpb
import Derived.Test.YtepalbldleegiaaGreatDoorSza
import Derived.Lib.QuietBelow
namespace Go.Proofs.YtepalbldleegiaaGreatDoor.sh
open Go.RowKit
open Go.Lib (itoa decDigits byteCells atoiAll)

def digI (c : UInt8) : Int := match dig c with
  | some n => n
  | none => -1
theorem idx16 : ∀ c : UInt8, Lib.indexByte [48, 49, 50, 51, 52, 53, 54, 55, 56, 57, 97, 98, 99, 100, 101, 102] c = digI c := by
  intro c
  have h : ∀ n : Fin 256, Lib.indexByte [48, 49, 50, 51, 52, 53, 54, 55, 56, 57, 97, 98, 99, 100, 101, 102] (UInt8.ofNat n.val) = digI (UInt8.ofNat n.val) := by decide +kernel
  have := h ⟨c.toNat, c.toNat_lt⟩
  simpa using this
theorem indexDig_any (x : UInt8) (w : World) : Calls Tryz.prog 106 #[.string ⟨#[48, 49, 50, 51, 52, 53, 54, 55, 56, 57, 97, 98, 99, 100, 101, 102]⟩, .int .u8 (x.toNat : Int)] w fun e w' => e = .returned (.int .i64 (digI x)) ∧ Below w.heap.size w w' := by
  go_enter Tryz.func106, Tryz.ntmps106
  go_wp2_with fail
  refine (Tryz.stringslite_IndexByte _ _ w).mono ?_
  rintro e w' ⟨rfl, rfl⟩
  have hx : (x.toNat : Int).toNat.toUInt8 = x := by simp
  have hd : Lib.indexByte (⟨#[48, 49, 50, 51, 52, 53, 54, 55, 56, 57, 97, 98, 99, 100, 101, 102]⟩ : ByteArray).data.toList x = digI x := idx16 x
  rw [hx, hd]
  go_wp2_with fail
  go_ret
  exact ⟨rfl, Below.refl _ _⟩
theorem digI_some {c : UInt8} {n : Nat} (h : dig c = some n) : digI c = n := by unfold digI; rw [h]
theorem digI_none {c : UInt8} (h : dig c = none) : digI c = -1 := by unfold digI; rw [h]
theorem dig_lt {c : UInt8} {n : Nat} (h : dig c = some n) : n < 16 := by
  unfold dig at h
  split at h
  · rename_i hc
    injection h with h
    have := UInt8.le_iff_toNat_le.1 hc.2
    have : c.toNat ≤ 57 := this
    omega
  · split at h
    · rename_i hc
      injection h with h
      have := UInt8.le_iff_toNat_le.1 hc.2
      have : c.toNat ≤ 102 := this
      omega
    · cases h
theorem bytesL_even : ∀ (l : Bs) (o : Bs), bytesL l = some o → l.length = 2 * o.length
  | [], o, h => by simp only [bytesL, Option.some.injEq] at h; subst h; rfl
  | [_], o, h => by simp [bytesL] at h
  | a :: b :: s, o, h => by
    simp only [bytesL, Option.bind_eq_some_iff, Option.map_eq_some_iff] at h
    obtain ⟨x, -, t, ht, rfl⟩ := h
    have := bytesL_even s t ht
    simp only [List.length_cons]; omega
theorem bytesL_split : ∀ (l : Bs) (o : Bs) (a b : UInt8) (s : Bs), bytesL l = some o → bytesL (l ++ a :: b :: s) = (byteOf a b).bind fun x => (bytesL s).map (fun t => o ++ x :: t)
  | [], o, a, b, s, h => by
    simp only [bytesL, Option.some.injEq] at h; subst h
    simp only [List.nil_append, bytesL]
  | [_], o, _, _, _, h => by simp [bytesL] at h
  | c :: d :: l, o, a, b, s, h => by
    simp only [bytesL, Option.bind_eq_some_iff, Option.map_eq_some_iff] at h
    obtain ⟨x, hx, t, ht, rfl⟩ := h
    simp only [List.cons_append, bytesL, hx, Option.bind_some]
    rw [bytesL_split l t a b s ht]
    cases byteOf a b with
    | none => rfl
    | some y => cases bytesL s <;> rfl
theorem bytesL_odd (l : Bs) (h : l.length % 2 = 1) : bytesL l = none := by
  cases hh : bytesL l with
  | none => rfl
  | some o => have := bytesL_even l o hh; omega
theorem byteOf_none {a b : UInt8} (h : dig a = none ∨ dig b = none) : byteOf a b = none := by
  unfold byteOf
  rcases h with h | h
  · rw [h]; rfl
  · rw [h]; cases dig a <;> rfl
theorem byteOf_some {a b : UInt8} {x y : Nat} (h : dig a = some x) (h2 : dig b = some y) : byteOf a b = some (UInt8.ofNat (16 * x + y)) := by unfold byteOf; rw [h, h2]; rfl
/-- bytes in a row of the callee's own, or the panic -/
def GivesB (w : World) (o : Option Bs) (e : Ending) (w' : World) : Prop :=
  match o with
  | none => e = .panicked am ∧ Below w.heap.size w w'
  | some o => ∃ v, e = .returned v ∧ w'.ownsRow w.heap.size 5 1 v o.length (byteCells o) ∧ Below w.heap.size w w'

set_option maxRecDepth 100000 in
set_option maxHeartbeats 4000000 in
theorem bytesOf_any (l : Bs) (hl : l.length ≤ 4096) (w : World) : Calls Tryz.prog 79 #[.string (S l)] w (GivesB w (bytesL l)) := by
  obtain ⟨i0, hi, hz0, hz1, hz2⟩ := info_parts infoByte
  have hsz : (S l).size = l.length := S_size _
  by_cases hod : l.length % 2 = 1
  · rw [bytesL_odd l hod]
    have hm : (Int.tmod (l.length : Int) 2) = 1 := by rw [show (2 : Int) = ((2 : Nat) : Int) from rfl, ← Int.ofNat_tmod]; omega
    go_enter Tryz.func79, Tryz.ntmps79
    go_wp2_with fail
    all_goals exact ⟨rfl, rfl, Below.refl _ _⟩
  · have hm : (Int.tmod (l.length : Int) 2) = 0 := by rw [show (2 : Int) = ((2 : Nat) : Int) from rfl, ← Int.ofNat_tmod]; omega
    have HM : Hid (l.length % 2 = 0) := Lib.hid (by omega)
    clear hod
    obtain ⟨res, hres⟩ : ∃ r, bytesL l = r := ⟨_, rfl⟩
    rw [hres]
    have HRES := Lib.hid hres
    clear hres
    go_enter Tryz.func79, Tryz.ntmps79
    go_wp2_with fail
    clear hm
    go_loopw [3, 4] (fun s3 i wr => ∃ (k : Nat) (o : Bs), k ≤ l.length ∧ i = .int .i64 (k : Int) ∧ Hid (bytesL (l.take k) = some o) ∧ Hid (2 * o.length = k) ∧ Hid (wr.ownsRow w.heap.size 5 1 s3 o.length (byteCells o)) ∧ Hid (Below w.heap.size w wr)) (fun _ i _ => l.length - (intOf i).toNat)
    case atStart => exact ⟨0, [], by omega, rfl, rfl, rfl, ⟨rfl, Or.inl ⟨rfl, rfl⟩⟩, Below.refl _ _⟩
    case round =>
      obtain ⟨k, o, hkl, rfl, HO, HOL, HOW, HB⟩ := hrel
      by_cases hlt : k < l.length
      · have h2 : k + 1 < l.length := by have := HM.out; have := HOL.out; omega
        have hix1 := S_idx l k hlt
        have hix2 : ∀ W, (Instr.index 9 (.string (S l)) (.int .i64 ((k : Int) + 1))).run Tryz.prog W = .ok (.int .u8 (l[k + 1].toNat : Int)) W := S_idx l (k + 1) h2
        obtain ⟨a, ha⟩ : ∃ d, l[k] = d := ⟨_, rfl⟩
        obtain ⟨b, hb⟩ : ∃ d, l[k + 1] = d := ⟨_, rfl⟩
        rw [ha] at hix1
        rw [hb] at hix2
        have hsp : l = l.take k ++ a :: b :: l.drop (k + 2) := by
          rw [← ha, ← hb, ← List.drop_eq_getElem_cons h2, ← List.drop_eq_getElem_cons hlt, List.take_append_drop]
        have hsp2 : l.take (k + 2) = l.take k ++ a :: b :: [] := by
          rw [show k + 2 = k + 1 + 1 by omega, List.take_succ_eq_append_getElem h2, List.take_succ_eq_append_getElem hlt, ha, hb, List.append_assoc]; rfl
        have HSP := Lib.hid hsp
        have HSP2 := Lib.hid hsp2
        clear ha hb hsp hsp2
        go_upto_region 7 with fail
        go_cut [5, 6] (fun s5 s6 wx => s5 = .int .i64 (digI a) ∧ s6 = .int .i64 (digI b) ∧ Hid (Below wr.heap.size wr wx))
        case first =>
          have q1 : ∀ d os, Calls Tryz.prog 106 #[.string ⟨#[48, 49, 50, 51, 52, 53, 54, 55, 56, 57, 97, 98, 99, 100, 101, 102]⟩, .int .u8 (a.toNat : Int)] (Sort.grow (redrawn wr d) os) fun e w'' => e = .returned (.int .i64 (digI a)) ∧ ∃ p : Regrown, w'' = Sort.grow (redrawn wr p.d) p.os := fun d os => Calls.regrown_of (indexDig_any a _)
          have q2 : ∀ d os, Calls Tryz.prog 106 #[.string ⟨#[48, 49, 50, 51, 52, 53, 54, 55, 56, 57, 97, 98, 99, 100, 101, 102]⟩, .int .u8 (b.toNat : Int)] (Sort.grow (redrawn wr d) os) fun e w'' => e = .returned (.int .i64 (digI b)) ∧ ∃ p : Regrown, w'' = Sort.grow (redrawn wr p.d) p.os := fun d os => Calls.regrown_of (indexDig_any b _)
          refine wp_region_quiet_below (by kernel_rfl) (by kernel_rfl) ?_
          repeat (first | go_big_quiet_skip | (go_big_quiet_want; go_big_quiet_op; first | go_big_quiet_on | (apply Exists.intro; refine ⟨fun _ => ?_, ?_⟩; · (first | with_reducible exact q1 _ _ | with_reducible exact q2 _ _)); go_big_quiet_on))
          refine wpQuiet_nil ?_
          intro _ hw'
          obtain ⟨⟨dq, osq⟩, hw''⟩ := hw'
          subst hw''
          go_wp2_with fail
          go_meet
          exact ⟨rfl, rfl, below_regrown wr dq osq⟩
        case rest =>
          obtain ⟨rfl, rfl, HBc⟩ := hcut
          have HBW : Hid (Below w.heap.size w wc) := HB.out.trans (HBc.out.mono HB.out.size)
          have hows := HOW.out.kept (grown_of_below HBc.out) (by cases hv : Value.ownBlock _ <;> simp)
          have HOWc := Lib.hid hows
          clear hows
          rcases hda : dig a with _ | x
          · rw [digI_none hda]
            have HF : Hid (res = none) := Lib.hid (by rw [← HRES.out, HSP.out, bytesL_split _ _ _ _ _ HO.out, byteOf_none (Or.inl hda)]; rfl)
            clear hda hix1 hix2
            go_wp2_with fail
            all_goals
              refine ⟨rfl, ?_⟩
              rw [HF.out]
              exact ⟨rfl, HBW.out⟩
          · rcases hdb : dig b with _ | y
            · rw [digI_none hdb, digI_some hda]
              have HF : Hid (res = none) := Lib.hid (by rw [← HRES.out, HSP.out, bytesL_split _ _ _ _ _ HO.out, byteOf_none (Or.inr hdb)]; rfl)
              clear hda hdb hix1 hix2
              go_wp2_with fail
              all_goals
                refine ⟨rfl, ?_⟩
                rw [HF.out]
                exact ⟨rfl, HBW.out⟩
            · rw [digI_some hda, digI_some hdb]
              have hx := dig_lt hda
              have hy := dig_lt hdb
              have HO2 : Hid (bytesL (l.take (k + 2)) = some (o ++ [UInt8.ofNat (16 * x + y)])) := Lib.hid (by rw [HSP2.out, bytesL_split _ _ _ _ _ HO.out, byteOf_some hda hdb]; rfl)
              have HU : Hid ((((UInt8.ofNat (16 * x + y)).toNat : Nat) : Int) = 16 * (x : Int) + y) := Lib.hid (by rw [UInt8.toNat_ofNat', Nat.mod_eq_of_lt (by omega)]; omega)
              have hnw : o.length ≤ 4096 := by have := HOL.out; omega
              clear hda hdb hix1 hix2
              go_wp2_with (at_builtin; refine wpList_append_own _ rfl _ _ 25 rfl w.heap.size 5 i0 (.int .u8 0) 1 1 Tryz.underlying25 hi hz0 hz1 hz2 rfl (by decide) _ _ _ rfl (HOWc.out.alloc _) ⟨wc.heap.size, 0, none⟩ 1 1 [.int .u8 (16 * (x : Int) + y)] rfl rfl ?c1 ?c2 ?c3 ?c4 ?c5 ?_)
              case c1 =>
                intro j u hj
                match j, hj with
                | 0, hj => simp at hj; subst hj; simp [Addr.add]
              case c2 => intro u hu; simp at hu; subst hu; rfl
              case c3 => unfold maxLen; omega
              case c4 => omega
              case c5 => have := HBW.out.size; simp; omega
              intro v' w2 hown' hgrow _
              have HB2 : Hid (Below w.heap.size w w2) := (HBW.out.alloc HBW.out.size _).grown hgrow (by have := HBW.out.size; simp; omega) (fun k hk => (HOWc.out.lt k hk).1)
              have HOW2 : Hid (w2.ownsRow w.heap.size 5 1 v' (o ++ [UInt8.ofNat (16 * x + y)]).length (byteCells (o ++ [UInt8.ofNat (16 * x + y)]))) := Lib.hid (by
                rw [List.length_append, cells_snoc, HU.out]
                exact hown')
              clear hown' hgrow
              go_wp2_with fail
              go_roundw
              case rel => exact ⟨k + 2, _, by omega, by go_num, HO2, Lib.hid (by rw [List.length_append]; have := HOL.out; simp; omega), HOW2, HB2⟩
              case measure => simp [intOf]; omega
      · have hmm : k = l.length := by omega
        have HF : Hid (res = some o) := Lib.hid (by rw [← HRES.out, ← HO.out, hmm, List.take_length])
        clear hmm
        go_wp2_with fail
        go_ret
        rw [HF.out]
        exact ⟨_, rfl, HOW.out, HB.out⟩
end Go.Proofs.YtepalbldleegiaaGreatDoor.sh
