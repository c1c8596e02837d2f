/-
  The program's bytes and picks out of the parts of a line: walked.
  Conditions: parts of at most 4096 bytes, at most 4097 of them; the two errors' variables hold errors.
-/
import Derived.Test.YtepalbldleegiaaGreatDoorSpc
namespace Go.Proofs.YtepalbldleegiaaGreatDoor.sh
open Go.RowKit
open Go.Lib (itoa decDigits byteCells atoiAll)

/-- bytes in a row of the callee's own, and the parts that are left -/
def ReadsB (pg : Nat) (w : World) (o : Option (Bs × List Bs)) (e : Ending) (w' : World) : Prop :=
  match o with
  | none => e = .panicked am ∧ w.grownBy w' (some pg)
  | some (x, r) => ∃ v, e = .returned v ∧ w.grownBy w' (some pg) ∧ PartsAt w' pg r ∧ w'.ownsRow w.heap.size 5 1 v x.length (byteCells x)
def bytesR : List Bs → Option (Bs × List Bs)
  | [] => none
  | p :: r => (bytesP p).map fun x => (x, r)
theorem own_nilV (w : World) (b : Nat) (e : TypeId) (s : Nat) : w.ownsRow b e s (.slice none 0 0) 0 [] := ⟨by simp, Or.inl ⟨rfl, rfl⟩⟩
theorem own_mono {w : World} {B B' : Nat} {e : TypeId} {s : Nat} {v : Value} {n : Nat} {xs : List Value} (h : w.ownsRow B e s v n xs) (hb : B' ≤ B) : w.ownsRow B' e s v n xs := by
  refine ⟨h.1, ?_⟩
  rcases h.2 with h2 | ⟨g, cap, cur, h3, h4, h5⟩
  · exact Or.inl h2
  · exact Or.inr ⟨g, cap, cur, h3, Nat.le_trans hb h4, h5⟩
theorem bytes_any (pg : Nat) (l : List Bs) (w : World) (h : PartsAt w pg l) (hl : ∀ p ∈ l, p.length ≤ 4096) :
    Calls Tryz.prog 45 #[.pointer (some ⟨pg, 0, none⟩)] w (ReadsB pg w (bytesR l)) := by
  cases l with
  | nil =>
    go_enter Tryz.func45, Tryz.ntmps45
    go_wp2_with fail
    refine (next_none pg w h).mono ?_
    rintro e w1 ⟨rfl, hg⟩
    go_wp2_with fail
    exact ⟨rfl, rfl, hg⟩
  | cons p r =>
    have hp := hl p List.mem_cons_self
    clear hl
    by_cases h45 : p = [45]
    · subst h45
      go_enter Tryz.func45, Tryz.ntmps45
      go_wp2_with fail
      refine (next_some pg _ r w h).mono ?_
      rintro e w1 ⟨rfl, hg, hp1⟩
      have he : (S [45]).toList = [45] := S_list _
      go_wp2_with fail
      go_ret
      exact ⟨_, rfl, hg, hp1, own_nilV _ _ _ _⟩
    · obtain ⟨res, hres⟩ : ∃ x, bytesR (p :: r) = x := ⟨_, rfl⟩
      rw [hres]
      rw [bytesR, bytesP, if_neg h45] at hres
      have HR := Lib.hid hres
      have he : ((S p).toList == [45]) = false := by rw [S_list, beq_eq_false_iff_ne]; exact h45
      clear hres h45
      go_enter Tryz.func45, Tryz.ntmps45
      go_wp2_with fail
      refine (next_some pg p r w h).mono ?_
      rintro e w1 ⟨rfl, hg, hp1⟩
      go_wp2_with fail
      refine (bytesOf_any p hp w1).mono ?_
      rcases hb : bytesL p with _ | o
      · rintro e w2 ⟨rfl, hb2⟩
        have HF : Hid (res = none) := Lib.hid (by rw [← HR.out, hb]; rfl)
        have HG : Hid (w.grownBy w2 (some pg)) := gb_trans hg (gb_below pg hb2)
        clear hb hb2 hg
        go_wp2_with fail
        refine ⟨rfl, ?_⟩
        rw [HF.out]
        exact ⟨rfl, HG.out⟩
      · rintro e w2 ⟨v, rfl, ho, hb2⟩
        have HF : Hid (res = some (o, r)) := Lib.hid (by rw [← HR.out, hb]; rfl)
        have HG : Hid (w.grownBy w2 (some pg)) := gb_trans hg (gb_below pg hb2)
        have HP := Lib.hid (hp1.below hb2)
        have HO := Lib.hid (own_mono ho hg.size)
        clear hb hb2 hg ho hp1
        go_wp2_with fail
        go_ret
        rw [HF.out]
        exact ⟨v, rfl, HG.out, HP.out, HO.out⟩

def intC (xs : List Int) : List Value := xs.map (Value.int .i64)
def ReadsP (pg : Nat) (w : World) (o : Option (List Int)) (e : Ending) (w' : World) : Prop :=
  match o with
  | none => e = .panicked am ∧ w.grownBy w' (some pg)
  | some x => ∃ v, e = .returned v ∧ w.grownBy w' (some pg) ∧ PartsAt w' pg [] ∧ w'.ownsRow w.heap.size 3 1 v x.length (intC x)
theorem picksP_app : ∀ (a b : List Bs) (xs : List Int), picksP a = some xs → picksP (a ++ b) = (picksP b).map (xs ++ ·)
  | [], b, xs, h => by simp only [picksP, Option.some.injEq] at h; subst h; simp
  | p :: a, b, xs, h => by
    simp only [picksP, Option.bind_eq_some_iff, Option.map_eq_some_iff] at h
    obtain ⟨n, hn, t, ht, rfl⟩ := h
    simp only [List.cons_append, picksP, hn, Option.bind_some, picksP_app a b t ht, Option.map_map]
    rfl
theorem infoInt : (Tryz.prog.info? 3).map (fun i => (i.zero, i.size, i.bytes)) = some (some (.int .i64 0), 1, 8) := by kernel_rfl

set_option maxRecDepth 100000 in
set_option maxHeartbeats 4000000 in
theorem picks_read (pg : Nat) (l : List Bs) (w : World) (h : PartsAt w pg l) (he : Errs w) (hl : ∀ p ∈ l, p.length ≤ 4096) (hn : l.length ≤ 4097) :
    Calls Tryz.prog 51 #[.pointer (some ⟨pg, 0, none⟩)] w (ReadsP pg w (picksP l)) := by
  obtain ⟨i0, hi, hz0, hz1, hz2⟩ := info_parts infoInt
  obtain ⟨res, hres⟩ : ∃ r, picksP l = r := ⟨_, rfl⟩
  rw [hres]
  have HRES := Lib.hid hres
  have HE := Lib.hid he
  have HL := Lib.hid hl
  have HH := Lib.hid h
  have H6 : Hid (pg < w.heap.size) := h.lt
  have H7 : Hid (6 ≤ pg) := h.1
  clear hres he hl h
  go_enter Tryz.func51, Tryz.ntmps51
  go_wp2_with fail
  go_loopw [3] (fun s3 wr => ∃ (a b : List Bs) (xs : List Int), Hid (l = a ++ b) ∧ Hid (picksP a = some xs) ∧ Hid (xs.length = a.length) ∧ Hid (PartsAt wr pg b) ∧ Hid (wr.ownsRow w.heap.size 3 1 s3 xs.length (intC xs)) ∧ Hid (w.grownBy wr (some pg))) (fun _ wr => partsLen wr pg)
  case atStart => exact ⟨[], l, [], rfl, rfl, rfl, HH, own_nilV _ _ _ _, gb_refl _ _⟩
  case round =>
    obtain ⟨a, b, xs, HS, HX, HXL, HP, HO, HG⟩ := hrel
    obtain ⟨A, cap, q0, hcap⟩ := HP.out.cell
    cases b with
    | nil =>
      have HF : Hid (res = some xs) := Lib.hid (by rw [← HRES.out, HS.out, List.append_nil, HX.out])
      rw [List.length_nil] at q0 hcap
      go_wp2_with fail
      go_ret
      rw [HF.out]
      exact ⟨_, rfl, HG.out, HP.out, HO.out⟩
    | cons p r =>
      rw [List.length_cons] at q0 hcap
      have hp : p.length ≤ 4096 := HL.out p (by rw [HS.out]; simp)
      have HLE : Hid (partsLen wr pg = r.length + 1) := Lib.hid (by rw [HP.out.len]; rfl)
      go_wp2_with fail
      refine (next_some pg p r wr HP.out).mono ?_
      rintro e w1 ⟨rfl, hg, hp1⟩
      have HE1 : Hid (Errs w1) := (HE.out.gb HG.out H7.out).gb hg H7.out
      have HG1 : Hid (w.grownBy w1 (some pg)) := gb_trans HG.out hg
      have HP1 := Lib.hid hp1
      have HO1 : Hid (w1.ownsRow w.heap.size 3 1 u3 xs.length (intC xs)) := HO.out.kept hg (Or.inr fun e => by have := (HO.out.lt _ e).1; have := H6.out; omega)
      clear q0 hcap hg hp1
      go_wp2_with fail
      rcases hb : numP p with _ | n
      · refine (atoi_no p hp hb w1 HE1.out).mono ?_
        rintro e w2 ⟨⟨v, t, q, rfl⟩, hb2⟩
        have HF : Hid (res = none) := Lib.hid (by rw [← HRES.out, HS.out, picksP_app _ _ _ HX.out, picksP, hb]; rfl)
        have HG2 : Hid (w.grownBy w2 (some pg)) := gb_trans HG1.out (gb_below pg hb2)
        clear hb hb2
        go_wp2_with fail
        refine ⟨rfl, ?_⟩
        rw [HF.out]
        exact ⟨rfl, HG2.out⟩
      · refine (atoi_ok p hp n hb w1).mono ?_
        rintro e w2 ⟨rfl, hb2⟩
        have HX2 : Hid (picksP (a ++ [p]) = some (xs ++ [n])) := Lib.hid (by rw [picksP_app _ _ _ HX.out, picksP, hb]; rfl)
        have HS2 : Hid (l = (a ++ [p]) ++ r) := Lib.hid (by rw [HS.out]; simp)
        have HG2 : Hid (w.grownBy w2 (some pg)) := gb_trans HG1.out (gb_below pg hb2)
        have HP2 := Lib.hid (HP1.out.below hb2)
        have HO2 : Hid (w2.ownsRow w.heap.size 3 1 u3 xs.length (intC xs)) := HO1.out.kept (grown_of_below hb2) (by cases hv : Value.ownBlock _ <;> simp)
        have hnw : xs.length ≤ 4097 := by
          have e1 := HXL.out
          have e2 := congrArg List.length HS.out
          simp only [List.length_append, List.length_cons] at e2
          omega
        clear hb hb2
        go_wp2_with (at_builtin; refine wpList_append_own _ rfl _ _ 26 rfl w.heap.size 3 i0 (.int .i64 0) 1 8 Tryz.underlying26 hi hz0 hz1 hz2 rfl (by decide) _ _ _ rfl (HO2.out.alloc _) ⟨w2.heap.size, 0, none⟩ 1 1 [.int .i64 n] rfl rfl ?c1 ?c2 ?c3 ?c4 ?c5 ?_)
        case c1 =>
          intro j u hj
          match j, hj with
          | 0, hj => simp at hj; subst hj; simp [Addr.add]
        case c2 => intro u hu; simp at hu; subst hu; rfl
        case c3 => unfold maxLen; omega
        case c4 => omega
        case c5 => have := HG2.out.size; simp; omega
        intro v' w3 hown' hgrow _
        have hlt3 : ∀ k, Value.ownBlock u3 = some k → w.heap.size ≤ k := fun k hk => (HO2.out.lt k hk).1
        have HG3 : Hid (w.grownBy w3 (some pg)) := gb_own (gb_trans HG2.out (World.grownBy_alloc _ _ _)) hgrow hlt3
        have HP3 : Hid (PartsAt w3 pg r) := (HP2.out.grown (World.grownBy_alloc _ _ none) (fun k e => by cases e)).grown hgrow (fun k e => by have := hlt3 k e; have := H6.out; omega)
        have HO3 : Hid (w3.ownsRow w.heap.size 3 1 v' (xs ++ [n]).length (intC (xs ++ [n]))) := Lib.hid (by
          rw [List.length_append, intC, List.map_append]
          exact hown')
        clear hown' hgrow hlt3
        go_wp2_with fail
        go_roundw
        case rel => exact ⟨a ++ [p], r, xs ++ [n], HS2, HX2, Lib.hid (by rw [List.length_append, List.length_append, HXL.out]; rfl), HP3, HO3, HG3⟩
        case measure => rw [HP3.out.len, HLE.out]; omega
end Go.Proofs.YtepalbldleegiaaGreatDoor.sh
