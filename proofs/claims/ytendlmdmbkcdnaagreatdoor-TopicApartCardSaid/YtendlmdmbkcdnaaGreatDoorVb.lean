/-
  Texts of the proof joined by a program: Ocf Osa Osb Osc Osd Ose Osf.
-/
import Derived.Test.YtendlmdmbkcdnaaGreatDoorVa
import Derived.Laws.EntriesVeiled
import Derived.Deep.RegionWith
import Derived.Maps.OwnSet
set_option linter.unusedSimpArgs false
set_option linter.unusedVariables false
namespace Go.Proofs.YtendlmdmbkcdnaaGreatDoor.oc
open Go.RowKit
open Go.Lib (hid)
set_option maxRecDepth 100000
theorem be4_length (v : Nat) : (be4 v).length = 4 := rfl
def wrapL (m : UInt8) (b : List UInt8) : List UInt8 := [m] ++ be4 b.length ++ be4 (extN (extN 0 (be4 b.length)) b) ++ b
theorem wrapL_length (m : UInt8) (b : List UInt8) : (wrapL m b).length = 9 + b.length := by simp [wrapL, be4_length]; omega
def GivesB (w : World) (l : List UInt8) (e : Ending) (w' : World) : Prop := ∃ A c, e = .returned (.slice A l.length c) /\ w'.ownsRow w.heap.size 5 1 (.slice A l.length c) l.length (bc l) /\ Below w.heap.size w w'
set_option maxHeartbeats 1000000 in
theorem wrap_any (m : UInt8) (b : List UInt8) (hb : b.length <= 1073741824) (A : Option Addr) (c : Nat) (w : World) (h : RB w A b) : Calls Tryz.prog 243 #[.int .u8 (m.toNat : Int), .slice A b.length c] w (GivesB w (wrapL m b)) := by
 have HR := hid h
 have hsum1 := extN_lt (s := 0) (by decide) (be4 b.length)
 have hsum2 := extN_lt hsum1 b
 have HS1 := hid hsum1
 have HS2 := hid hsum2
 clear h hsum1 hsum2
 go_enter Tryz.func243, Tryz.ntmps243
 go_wp2_with fail
 refine (writer_new w.heap.size w (Nat.le_refl _)).mono ?_
 rintro e w1 ⟨rfl, h1, b1⟩
 have H1 := hid h1
 have B1 := hid b1
 clear h1 b1
 go_wp2_with fail
 refine (u32_any _ _ _ b.length (by omega) (by simp) w1 H1.out).mono ?_
 rintro e w2 ⟨rfl, h2, b2⟩
 have H2 := hid h2
 have B2 : Hid (Below w.heap.size w w2) := B1.out.trans b2
 clear h2 b2
 go_wp2_with fail
 refine (writer_new w2.heap.size w2 (Nat.le_refl _)).mono ?_
 rintro e w3 ⟨rfl, h3, b3⟩
 have H3 := hid h3
 have B3 := hid b3
 clear h3 b3
 go_wp2_with fail
 refine (byte_any _ _ _ m (by simp) w3 H3.out).mono ?_
 rintro e w4 ⟨rfl, h4, b4⟩
 have H4 := hid h4
 have B4 : Hid (Below w2.heap.size w2 w4) := B3.out.trans b4
 clear h4 b4
 go_wp2_with fail
 refine (bytes_any _ _ _ (by simp [be4_length]) w4 (H2.out.below B4.out) w4.heap.size (Nat.le_refl _)).mono ?_
 rintro e w5 ⟨A5, c5, rfl, o5, b5⟩
 have O5 := hid o5
 have B5 : Hid (Below w2.heap.size w2 w5) := B4.out.trans (b5.mono B4.out.size)
 have H5 : Hid (Wr w5 w2.heap.size w2.heap.size _) := H4.out.below b5
 clear o5 b5
 go_wp2_with fail
 refine (raw_any _ _ _ _ (by simp [be4_length]) A5 c5 w5 H5.out (RB.of_own O5.out)).mono ?_
 rintro e w6 ⟨rfl, h6, b6⟩
 have H6 := hid h6
 have B6 : Hid (Below w2.heap.size w2 w6) := B5.out.trans b6
 clear h6 b6
 go_wp2_with fail
 refine (bytes_any _ _ _ (by simp [be4_length]) w6 (H2.out.below B6.out) w6.heap.size (Nat.le_refl _)).mono ?_
 rintro e w7 ⟨A7, c7, rfl, o7, b7⟩
 have O7 := hid o7
 have B7 : Hid (Below w2.heap.size w2 w7) := B6.out.trans (b7.mono B6.out.size)
 have H7 : Hid (Wr w7 w2.heap.size w2.heap.size _) := H6.out.below b7
 clear o7 b7
 go_wp2_with fail
 refine (sum_any _ (by simp [be4_length]) A7 c7 w7 (RB.of_own O7.out)).mono ?_
 rintro e w8 ⟨rfl, b8⟩
 have B8 : Hid (Below w2.heap.size w2 w8) := B7.out.trans (b8.mono B7.out.size)
 have H8 : Hid (Wr w8 w2.heap.size w2.heap.size _) := H7.out.below b8
 clear b8
 have HR8 : Hid (RB w8 A b) := HR.out.below (B2.out.trans (B8.out.mono B2.out.size))
 go_wp2_with fail
 refine (extend_any _ HS1.out b (by omega) A c w8 HR8.out).mono ?_
 rintro e w9 ⟨rfl, b9⟩
 have B9 : Hid (Below w2.heap.size w2 w9) := B8.out.trans (b9.mono B8.out.size)
 have H9 : Hid (Wr w9 w2.heap.size w2.heap.size _) := H8.out.below b9
 clear b9
 go_wp2_with fail
 refine (u32_any _ _ _ _ HS2.out (by simp [be4_length]) w9 H9.out).mono ?_
 rintro e w10 ⟨rfl, h10, b10⟩
 have H10 := hid h10
 have B10 : Hid (Below w2.heap.size w2 w10) := B9.out.trans b10
 have HR10 : Hid (RB w10 A b) := HR.out.below (B2.out.trans ((B9.out.trans b10).mono B2.out.size))
 clear h10 b10
 go_wp2_with fail
 refine (raw_any _ _ _ b (by simp [be4_length]; omega) A c w10 H10.out HR10.out).mono ?_
 rintro e w11 ⟨rfl, h11, b11⟩
 have H11 : Hid (Wr w11 w2.heap.size w2.heap.size (wrapL m b)) := h11
 have B11 : Hid (Below w2.heap.size w2 w11) := B10.out.trans b11
 clear h11 b11
 go_wp2_with fail
 have B11w : Hid (Below w.heap.size w w11) := B2.out.trans (B11.out.mono B2.out.size)
 refine (bytes_any _ _ _ (by rw [wrapL_length]; omega) w11 H11.out w.heap.size B11w.out.size).mono ?_
 rintro e w12 ⟨A12, c12, rfl, o12, b12⟩
 have O12 := hid o12
 have B12 : Hid (Below w.heap.size w w12) := B11w.out.trans (b12.mono B11w.out.size)
 clear o12 b12
 go_wp2_with fail
 go_ret
 exact ⟨A12, c12, rfl, O12.out, B12.out⟩
theorem ret_sl {A : Option Addr} {n m c : Nat} (h : n = m) : Ending.returned (.slice A n c) = .returned (.slice A m c) := by rw [h]
theorem clone_any (l : List UInt8) (hl : l.length <= 1099511627776) (A : Option Addr) (c : Nat) (w : World) (h : RB w A l) : Calls Tryz.prog 70 #[.slice A l.length c] w (GivesB w l) := by
 obtain ⟨i0, hi, hz0, hz1, hz2⟩ := info_parts infoB
 cases A with
 | none =>
  have h0 : l = [] := by
   rcases Nat.eq_zero_or_pos l.length with h0 | h0
   ·exact List.eq_nil_of_length_eq_zero h0
   ·obtain ⟨b, off, e, _⟩ := h h0
    cases e
  subst h0
  have hnil := fun W => Lib.run_eql_slice_nil (P := Tryz.prog) W 74 5 none 0 c 0 0 Tryz.underlying74
  show Calls _ _ #[.slice none 0 c] w _
  clear h
  go_enter Tryz.func70, Tryz.ntmps70
  go_wp2_with fail
  go_ret
  exact ⟨none, 0, rfl, World.ownsRow_nil _ _ _ _, Below.refl _ _⟩
 | some a =>
  have hnil := fun W => Lib.run_eql_slice_nil (P := Tryz.prog) W 74 5 (some a) l.length c 0 0 Tryz.underlying74
  have hO : (w.alloc (.cells #[] 5)).ownsRow w.heap.size 5 1 (.slice (some ⟨w.heap.size, 0, none⟩) 0 0) 0 [] := ⟨rfl, Or.inr ⟨w.heap.size, 0, #[], rfl, Nat.le_refl _, heap_alloc_new w _, Nat.le_refl _, by unfold maxLen; omega, rfl, rfl⟩⟩
  have HO := hid hO
  have HS := hid (h.below ((Below.refl _ _).alloc (Nat.le_refl _) (.cells #[] 5))).reads
  have hlim : (0 + l.length) * 1 <= 140737488355328 := by omega
  have hmx : 0 + l.length <= maxLen := by unfold maxLen; omega
  have HLM := hid hlim
  have HMX := hid hmx
  clear h hO hlim hmx
  go_enter Tryz.func70, Tryz.ntmps70
  go_wp2_with (first
   | (at_builtin; go_must (refine wpList_append_any _ rfl _ _ 74 rfl w.heap.size 5 i0 (.int .u8 0) 1 1 Tryz.underlying74 hi hz0 hz1 hz2 rfl (by decide) (.slice (some ⟨w.heap.size, 0, none⟩) 0 0) 0 [] rfl HO.out _ (some a) l.length c (bc l) rfl HS.out (bc_one l) HMX.out HLM.out (by simp) ?_; intro v' w2 hown2 hgr2 _; rw [Nat.zero_add, List.nil_append] at hown2; obtain ⟨A2, k2, rfl⟩ := own_slice hown2; have HO2 := hid hown2; have HG2 : Hid ((w.alloc (.cells #[] 5)).grownBy w2 (some w.heap.size)) := hid hgr2; clear hown2 hgr2))
   | fail)
  go_ret
  exact ⟨A2, k2, rfl, HO2.out, ((Below.refl _ _).alloc (Nat.le_refl _) _).grown HG2.out (by simp) (fun k hk => by injection hk with hk; omega)⟩
def Apd (w : World) (v : Value) (B : Nat) (l : List UInt8) (e : Ending) (w' : World) : Prop := ∃ A c, e = .returned (.slice A l.length c) /\ w'.ownsRow B 5 1 (.slice A l.length c) l.length (bc l) /\ w.grownBy w' v.ownBlock /\ ∀ g, (Value.slice A l.length c).ownBlock = some g -> v.ownBlock = some g \/ w.heap.size <= g
theorem appended_any (B : Nat) (v : Value) (l s : List UInt8) (hn : l.length + s.length <= 1099511627776) (A : Option Addr) (c : Nat) (w : World) (hB : B <= w.heap.size) (ho : w.ownsRow B 5 1 v l.length (bc l)) (hs : RB w A s) : Calls Tryz.prog 331 #[.agg #[.slice A s.length c], v] w (Apd w v B (l ++ s)) := by
 obtain ⟨i0, hi, hz0, hz1, hz2⟩ := info_parts infoB
 have HO := hid (ho.alloc (.cells #[.slice A s.length c] 247))
 have HS := hid (hs.below ((Below.refl _ _).alloc (Nat.le_refl _) (.cells #[.slice A s.length c] 247))).reads
 have hlim : (l.length + s.length) * 1 <= 140737488355328 := by omega
 have hmx : l.length + s.length <= maxLen := by unfold maxLen; omega
 have HLM := hid hlim
 have HMX := hid hmx
 clear ho hs hlim hmx
 go_enter Tryz.func331, Tryz.ntmps331
 go_wp2_with (first
  | (at_builtin; go_must (refine wpList_append_any _ rfl _ _ 74 rfl B 5 i0 (.int .u8 0) 1 1 Tryz.underlying74 hi hz0 hz1 hz2 rfl (by decide) v l.length (bc l) rfl HO.out _ A s.length c (bc s) rfl HS.out (bc_one s) HMX.out HLM.out (by simp; exact Nat.le_succ_of_le hB) ?_; intro v' w2 hown2 hgr2 hor; rw [<- bc_append, <- List.length_append] at hown2; obtain ⟨A2, k2, rfl⟩ := own_slice hown2; have HO2 := hid hown2; have HG2 := hid hgr2; have HOR := hid hor; clear hown2 hgr2 hor))
  | fail)
 go_ret
 refine ⟨A2, k2, ret_sl (by simp), HO2.out, (World.grownBy_alloc _ _ _).trans HG2.out, fun g hg => ?_⟩
 rcases HOR.out with h | h
 ·exact Or.inl (h.symm.trans hg)
 ·have e := Option.some.inj (hg.symm.trans h)
  rw [World.size_alloc] at e
  exact Or.inr (by omega)
end Go.Proofs.YtendlmdmbkcdnaaGreatDoor.oc
namespace Go.Proofs.YtendlmdmbkcdnaaGreatDoor.oc
open Go.RowKit
set_option maxRecDepth 100000
inductive Tag | other | dat | disk | mseen | msafe | dchg | file (f : Nat) | seen (f : Nat) | safe (f : Nat) | chg (f : Nat)
inductive FChg | app (b : List UInt8) | cut (n : Nat)
structure FileS where
 seen : List UInt8
 safe : List UInt8
 chs : List FChg
def ChgV (w : World) (ow : Nat -> Tag) (v : Value) : FChg -> Prop
 | .app b => ∃ A c, v = .iface 247 (.agg #[.slice A b.length c]) /\ RB w A b /\ ∀ a, A = some a -> 0 < b.length -> ow a.block = .dat
 | .cut _ => False
def FileAt (w : World) (ow : Nat -> Tag) (f : Nat) (F : FileS) : Prop := ∃ vs vf vc vals, Blk w f 159 #[vs, vf, vc] /\ ow f = .file f /\
 (w.ownsRow 0 5 1 vs F.seen.length (bc F.seen) /\ ∀ g, vs.ownBlock = some g -> ow g = .seen f) /\
 (w.ownsRow 0 5 1 vf F.safe.length (bc F.safe) /\ ∀ g, vf.ownBlock = some g -> ow g = .safe f) /\
 (w.ownsRow 0 250 1 vc F.chs.length vals /\ ∀ g, vc.ownBlock = some g -> ow g = .chg f) /\
 ∀ (i : Nat) (ch : FChg), F.chs[i]? = some ch -> ∃ v, (vals : List Value)[i]? = some v /\ ChgV w ow v ch
structure Fr (C : Tag -> Prop) (ow ow' : Nat -> Tag) (w w' : World) : Prop where
 os : w'.os = w.os
 tape : w'.tape = w.tape
 output : w'.output = w.output
 size : w.heap.size <= w'.heap.size
 keep : ∀ i, i < w.heap.size -> ¬ C (ow i) -> w'.heap[i]? = w.heap[i]?
 old : ∀ i, i < w.heap.size -> ow' i = ow i
 new : ∀ i, w.heap.size <= i -> ow' i = .other \/ ow' i = .dat \/ C (ow' i)
theorem RB.keep {w w' : World} {A : Option Addr} {l : List UInt8} (h : RB w A l) (hs : w.heap.size <= w'.heap.size) (hk : ∀ a, A = some a -> 0 < l.length -> w'.heap[a.block]? = w.heap[a.block]?) : RB w' A l := fun h0 => by
 obtain ⟨b, off, e, hlt, hc⟩ := h h0
 refine ⟨b, off, e, Nat.lt_of_lt_of_le hlt hs, fun j hj => ?_⟩
 have hcc : w'.cell? ⟨b, off + j, none⟩ = w.cell? ⟨b, off + j, none⟩ := World.cell?_of_block (show w'.heap[b]? = w.heap[b]? from hk ⟨b, off, none⟩ e h0)
 exact hcc.trans (hc j hj)
theorem own_keepH {w w' : World} {B n z : Nat} {e : TypeId} {v : Value} {xs : List Value} (h : w.ownsRow B e z v n xs) (hk : ∀ g, v.ownBlock = some g -> w'.heap[g]? = w.heap[g]?) : w'.ownsRow B e z v n xs := by
 refine ⟨h.1, ?_⟩
 rcases h.2 with h1 | ⟨g, cap, cur, rfl, h2, h3, h4⟩
 ·exact Or.inl h1
 ·exact Or.inr ⟨g, cap, cur, rfl, h2, (hk g rfl).trans h3, h4⟩
theorem blk_keepH {w w' : World} {g : Nat} {t : TypeId} {cs : Array Value} (h : Blk w g t cs) (hk : w'.heap[g]? = w.heap[g]?) : Blk w' g t cs := hk.trans h
theorem ChgV.keep {w w' : World} {ow ow' : Nat -> Tag} {v : Value} {ch : FChg} {C : Tag -> Prop} (h : ChgV w ow v ch) (hF : Fr C ow ow' w w') (hd : ¬ C .dat) : ChgV w' ow' v ch := by
 cases ch with
 | app b =>
  obtain ⟨A, c, rfl, hR, ht⟩ := h
  have hlt : ∀ a, A = some a -> 0 < b.length -> a.block < w.heap.size := fun a ha h0 => by
   obtain ⟨b', off, e, hlt, _⟩ := hR h0
   rw [ha] at e
   cases e
   exact hlt
  refine ⟨A, c, rfl, hR.keep hF.size (fun a ha h0 => hF.keep _ (hlt a ha h0) (by rw [ht a ha h0]; exact hd)), fun a ha h0 => ?_⟩
  rw [hF.old _ (hlt a ha h0)]
  exact ht a ha h0
 | cut n => exact h
theorem FileAt.keep {w w' : World} {ow ow' : Nat -> Tag} {f : Nat} {F : FileS} {C : Tag -> Prop} (h : FileAt w ow f F) (hF : Fr C ow ow' w w') (hd : ¬ C .dat) (h1 : ¬ C (.file f)) (h2 : ¬ C (.seen f)) (h3 : ¬ C (.safe f)) (h4 : ¬ C (.chg f)) : FileAt w' ow' f F := by
 obtain ⟨vs, vf, vc, vals, hB, ht, ⟨hs, hst⟩, ⟨hf, hft⟩, ⟨hc, hct⟩, hch⟩ := h
 refine ⟨vs, vf, vc, vals, blk_keepH hB (hF.keep _ hB.lt (by rw [ht]; exact h1)), by rw [hF.old _ hB.lt]; exact ht, ⟨own_keepH hs fun g hg => hF.keep _ (hs.lt g hg).2 (by rw [hst g hg]; exact h2), fun g hg => ?_⟩, ⟨own_keepH hf fun g hg => hF.keep _ (hf.lt g hg).2 (by rw [hft g hg]; exact h3), fun g hg => ?_⟩, ⟨own_keepH hc fun g hg => hF.keep _ (hc.lt g hg).2 (by rw [hct g hg]; exact h4), fun g hg => ?_⟩, fun i ch hi => ?_⟩
 ·rw [hF.old _ (hs.lt g hg).2]; exact hst g hg
 ·rw [hF.old _ (hf.lt g hg).2]; exact hft g hg
 ·rw [hF.old _ (hc.lt g hg).2]; exact hct g hg
 ·obtain ⟨v, hv, hV⟩ := hch i ch hi
  exact ⟨v, hv, hV.keep hF hd⟩
end Go.Proofs.YtendlmdmbkcdnaaGreatDoor.oc
namespace Go.Proofs.YtendlmdmbkcdnaaGreatDoor.oc
open Go.RowKit
open Go.Lib (hid)
set_option maxRecDepth 100000
theorem nil_app (A : Option Addr) (n c : Nat) : ∀ W, (nilAhead 538 247 (.agg #[.slice A n c]) "chronicle/simfs.do").run Tryz.prog W = .ok (some false) W := fun _ => by kernel_rfl
theorem meth_app (A : Option Addr) (n c : Nat) : ∀ W, (method 538 247 (.agg #[.slice A n c]) "chronicle/simfs.do").run Tryz.prog W = .ok (331, .agg #[.slice A n c]) W := fun _ => by kernel_rfl
theorem infoC8 : (Tryz.prog.info? 250).map (fun i => (i.zero, i.size, i.bytes)) = some (some .nilIface, 1, 16) := by kernel_rfl
theorem own_disj {w : World} {B B' : Nat} {e e' : TypeId} {s s' : Nat} {v v' : Value} {n n' : Nat} {xs xs' : List Value} (h : w.ownsRow B e s v n xs) (h' : w.ownsRow B' e' s' v' n' xs') (hne : e ≠ e') : ∀ g, v.ownBlock = some g -> v'.ownBlock ≠ some g := by
 intro g hg hg'
 rcases h.2 with ⟨rfl, -⟩ | ⟨g1, cap, cur, rfl, -, h1, -⟩
 ·cases hg
 ·rcases h'.2 with ⟨rfl, -⟩ | ⟨g2, cap', cur', rfl, -, h2, -⟩
  ·cases hg'
  ·have e1 : g1 = g := Option.some.inj hg
   have e2 : g2 = g := Option.some.inj hg'
   subst e1
   subst e2
   rw [h1] at h2
   injection h2 with h2
   injection h2 with _ h2
   exact hne h2
def CFile (f : Nat) (t : Tag) : Prop := t = .file f \/ t = .seen f \/ t = .safe f \/ t = .chg f
def FAdd (w : World) (ow : Nat -> Tag) (f : Nat) (F : FileS) (e : Ending) (w' : World) : Prop := ∃ ow', e = .returned (.tuple #[]) /\ FileAt w' ow' f F /\ Fr (CFile f) ow ow' w w' /\ ∀ i, w'.heap.size <= i -> ow' i = .other
theorem size_set (w : World) (a : Addr) (u : Value) : (w.setCell a u).heap.size = w.heap.size := by simp [World.setCell]
theorem fadd_close {w w1 w3 : World} {ow : Nat -> Tag} {f : Nat} {F : FileS} {A : Option Addr} {c : Nat} {b : List UInt8} {S0 Vf Vc S1 C3 : Value} {vals : List Value} {box : Obj}
  (hT : Blk w f 159 #[S0, Vf, Vc]) (ht : ow f = .file f) (hs : w.ownsRow 0 5 1 S0 F.seen.length (bc F.seen)) (hst : ∀ g, S0.ownBlock = some g -> ow g = .seen f)
  (hf : w.ownsRow 0 5 1 Vf F.safe.length (bc F.safe)) (hft : ∀ g, Vf.ownBlock = some g -> ow g = .safe f)
  (hcc : w.ownsRow 0 250 1 Vc F.chs.length vals) (hct : ∀ g, Vc.ownBlock = some g -> ow g = .chg f)
  (hch : ∀ (i : Nat) (ch : FChg), F.chs[i]? = some ch -> ∃ v, vals[i]? = some v /\ ChgV w ow v ch) (hb : RB w A b) (hd : ∀ a, A = some a -> 0 < b.length -> ow a.block = .dat) (hnew : ∀ i, w.heap.size <= i -> ow i = .other)
  (ho1 : w1.ownsRow 0 5 1 S1 (F.seen ++ b).length (bc (F.seen ++ b))) (hg1 : w.grownBy w1 S0.ownBlock) (hl1 : ∀ g, S1.ownBlock = some g -> S0.ownBlock = some g \/ w.heap.size <= g)
  (ho3 : w3.ownsRow 0 250 1 C3 (F.chs.length + 1) (vals ++ [.iface 247 (.agg #[.slice A b.length c])]))
  (hg3 : ((w1.setCell ⟨f, 0, none⟩ S1).alloc box).grownBy w3 Vc.ownBlock) (hl3 : C3.ownBlock = Vc.ownBlock \/ C3.ownBlock = some ((w1.setCell ⟨f, 0, none⟩ S1).alloc box).heap.size) :
  FAdd w ow f { F with seen := F.seen ++ b, chs := F.chs ++ [.app b] } (.returned (.tuple #[])) (w3.setCell ⟨f, 2, none⟩ C3) := by
 have z1 := hg1.size
 have z3 := hg3.size
 rw [World.size_alloc, size_set] at z3
 have zf : (w3.setCell ⟨f, 2, none⟩ C3).heap.size = w3.heap.size := size_set _ _ _
 have hfl := hT.lt
 have nsf : S0.ownBlock ≠ some f := own_ne hs hT (by decide)
 have hT1 : Blk w1 f 159 #[S0, Vf, Vc] := hT.grown hg1 (fun e => nsf e.symm)
 have n1f : S1.ownBlock ≠ some f := own_ne ho1 hT1 (by decide)
 have hT2 : Blk ((w1.setCell ⟨f, 0, none⟩ S1).alloc box) f 159 #[S1, Vf, Vc] := (hT1.set_ 0 S1).alloc box
 have hc2 : ((w1.setCell ⟨f, 0, none⟩ S1).alloc box).ownsRow 0 250 1 Vc F.chs.length vals := by
  refine ((own_keepH hcc fun g hg => ?_ : w1.ownsRow 0 250 1 Vc F.chs.length vals)).kept (grown_set w1 f 0 S1) (Or.inr (own_ne hcc hT (by decide))) |>.alloc box
  exact hg1.block g (hcc.lt g hg).2 (fun e => own_disj hcc hs (by decide) g hg e.symm)
 have ncf : Vc.ownBlock ≠ some f := own_ne hcc hT (by decide)
 have hT3 : Blk w3 f 159 #[S1, Vf, Vc] := hT2.grown hg3 (fun e => ncf e.symm)
 have n3f : C3.ownBlock ≠ some f := own_ne ho3 hT3 (by decide)
 -- a block that nobody has turned
 have keep : ∀ i, i < w.heap.size -> i ≠ f -> S0.ownBlock ≠ some i -> Vc.ownBlock ≠ some i -> (w3.setCell ⟨f, 2, none⟩ C3).heap[i]? = w.heap[i]? := fun i hi hif h1 h2 => by
  rw [Below.heap_setCell _ _ _ _ (by exact hif), hg3.block i (by rw [World.size_alloc, size_set]; omega) (fun e => h2 e.symm), Below.heap_alloc _ _ _ (by rw [size_set]; omega), Below.heap_setCell _ _ _ _ (by exact hif), hg1.block i hi (fun e => h1 e.symm)]
 have ho1' : (w3.setCell ⟨f, 2, none⟩ C3).ownsRow 0 5 1 S1 (F.seen ++ b).length (bc (F.seen ++ b)) := by
  have a1 := (own_set (i := 0) ho1 n1f S1).alloc box
  have a2 := a1.kept hg3 (by
   by_cases e : S1.ownBlock = none
   ·exact Or.inl e
   ·right
    intro e2
    cases hx : S1.ownBlock with
    | none => exact e hx
    | some g => exact own_disj a1 hc2 (by decide) g hx (e2 ▸ hx))
  exact own_set (i := 2) a2 n1f C3
 have ho3' := own_set (i := 2) ho3 n3f C3
 have hl3' : ∀ g, C3.ownBlock = some g -> Vc.ownBlock = some g \/ w.heap.size <= g := fun g hg => by
  rcases hl3 with h | h
  ·exact Or.inl (h ▸ hg)
  ·right
   rw [hg] at h
   injection h with h
   rw [World.size_alloc, size_set] at h
   omega
 have hdis : ∀ g, S1.ownBlock = some g -> C3.ownBlock ≠ some g := own_disj ho1' ho3' (by decide)
 refine ⟨fun i => if S1.ownBlock = some i then .seen f else if C3.ownBlock = some i then .chg f else ow i, rfl, ?_, ?_, ?_⟩
 rotate_left
 ·-- the frame
  have hold : ∀ i, i < w.heap.size -> (if S1.ownBlock = some i then Tag.seen f else if C3.ownBlock = some i then .chg f else ow i) = ow i := fun i hi => by
   split
   ·rename_i h
    rcases hl1 i h with h1 | h1
    ·exact (hst i h1).symm
    ·omega
   ·split
    ·rename_i h
     rcases hl3' i h with h1 | h1
     ·exact (hct i h1).symm
     ·omega
    ·rfl
  refine ⟨?_, ?_, ?_, by omega, fun i hi hC => ?_, hold, fun i hi => ?_⟩
  ·exact hg3.os.trans hg1.os
  ·exact hg3.tape.trans hg1.tape
  ·exact hg3.output.trans hg1.output
  ·refine keep i hi ?_ ?_ ?_
   ·rintro rfl
    exact hC (Or.inl ht)
   ·intro e
    exact hC (Or.inr (Or.inl (hst i e)))
   ·intro e
    exact hC (Or.inr (Or.inr (Or.inr (hct i e))))
  ·show (if S1.ownBlock = some i then Tag.seen f else if C3.ownBlock = some i then .chg f else ow i) = .other \/ _
   split
   ·exact Or.inr (Or.inr (Or.inr (Or.inl rfl)))
   ·split
    ·exact Or.inr (Or.inr (Or.inr (Or.inr (Or.inr rfl))))
    ·exact Or.inl (hnew i hi)
 ·intro i hi
  rw [zf] at hi
  have h1 : S1.ownBlock ≠ some i := fun e => by have := (ho1'.lt i e).2; omega
  have h2 : C3.ownBlock ≠ some i := fun e => by have := (ho3'.lt i e).2; omega
  show (if S1.ownBlock = some i then Tag.seen f else if C3.ownBlock = some i then .chg f else ow i) = .other
  rw [if_neg h1, if_neg h2]
  exact hnew i (by omega)
 ·refine ⟨S1, Vf, C3, vals ++ [.iface 247 (.agg #[.slice A b.length c])], hT3.set_ 2 C3, ?_, ⟨ho1', fun g hg => by simp only [hg, if_true]⟩, ⟨own_keepH hf fun g hg => ?_, fun g hg => ?_⟩, ⟨by rw [List.length_append]; exact ho3', fun g hg => ?_⟩, ?_⟩
  ·show (if S1.ownBlock = some f then Tag.seen f else if C3.ownBlock = some f then .chg f else ow f) = .file f
   rw [if_neg n1f, if_neg n3f, ht]
  ·refine keep g (hf.lt g hg).2 (fun e => own_ne hf hT (by decide) (e ▸ hg)) (fun e => ?_) (fun e => ?_)
   ·have := hst g e
    rw [hft g hg] at this
    cases this
   ·have := hct g e
    rw [hft g hg] at this
    cases this
  ·show (if S1.ownBlock = some g then Tag.seen f else if C3.ownBlock = some g then .chg f else ow g) = .safe f
   have hgl := (hf.lt g hg).2
   rw [if_neg, if_neg]
   ·exact hft g hg
   ·intro e
    rcases hl3' g e with h | h
    ·have := hct g h
     rw [hft g hg] at this
     cases this
    ·omega
   ·intro e
    rcases hl1 g e with h | h
    ·have := hst g h
     rw [hft g hg] at this
     cases this
    ·omega
  ·show (if S1.ownBlock = some g then Tag.seen f else if C3.ownBlock = some g then .chg f else ow g) = .chg f
   rw [if_neg (fun e => hdis g e hg), if_pos hg]
  ·intro i ch hi
   have hvl : vals.length = F.chs.length := by have := hcc.1; omega
   have hkeepd : ∀ a : Addr, a.block < w.heap.size -> ow a.block = .dat -> (w3.setCell ⟨f, 2, none⟩ C3).heap[a.block]? = w.heap[a.block]? /\ (if S1.ownBlock = some a.block then Tag.seen f else if C3.ownBlock = some a.block then .chg f else ow a.block) = .dat := fun a hal had => by
    have k1 : S0.ownBlock ≠ some a.block := fun e => by have := hst _ e; rw [had] at this; cases this
    have k2 : Vc.ownBlock ≠ some a.block := fun e => by have := hct _ e; rw [had] at this; cases this
    refine ⟨keep _ hal (fun e => by rw [e, ht] at had; cases had) k1 k2, ?_⟩
    rw [if_neg, if_neg]
    ·exact had
    ·intro e
     rcases hl3' _ e with h | h
     ·exact k2 h
     ·omega
    ·intro e
     rcases hl1 _ e with h | h
     ·exact k1 h
     ·omega
   have happ : ∀ (A' : Option Addr) (b' : List UInt8), RB w A' b' -> (∀ a, A' = some a -> 0 < b'.length -> ow a.block = .dat) -> RB (w3.setCell ⟨f, 2, none⟩ C3) A' b' /\ ∀ a, A' = some a -> 0 < b'.length -> (if S1.ownBlock = some a.block then Tag.seen f else if C3.ownBlock = some a.block then .chg f else ow a.block) = .dat := fun A' b' hR hD => by
    have hlt : ∀ a, A' = some a -> 0 < b'.length -> a.block < w.heap.size := fun a ha h0 => by
     obtain ⟨b1, off, e, hlt, _⟩ := hR h0
     rw [ha] at e
     cases e
     exact hlt
    exact ⟨hR.keep (by omega) fun a ha h0 => (hkeepd a (hlt a ha h0) (hD a ha h0)).1, fun a ha h0 => (hkeepd a (hlt a ha h0) (hD a ha h0)).2⟩
   by_cases hlt : i < F.chs.length
   ·have hi' : F.chs[i]? = some ch := by simpa [List.getElem?_append_left hlt] using hi
    obtain ⟨v, hv, hV⟩ := hch i ch hi'
    refine ⟨v, by rw [List.getElem?_append_left (by omega)]; exact hv, ?_⟩
    cases ch with
    | app b' =>
     obtain ⟨A', c', rfl, hR, hD⟩ := hV
     obtain ⟨r1, r2⟩ := happ A' b' hR hD
     exact ⟨A', c', rfl, r1, r2⟩
    | cut n => exact hV.elim
   ·have hil : i = F.chs.length := by
     have := (List.getElem?_eq_some_iff.1 hi).1
     simp at this
     omega
    subst hil
    have : ch = .app b := by simpa using hi.symm
    subst this
    obtain ⟨r1, r2⟩ := happ A b hb hd
    exact ⟨_, by rw [List.getElem?_append_right (by omega), hvl, Nat.sub_self]; rfl, A, c, rfl, r1, r2⟩
set_option maxHeartbeats 4000000 in
theorem fadd_any (w : World) (ow : Nat -> Tag) (f : Nat) (F : FileS) (h : FileAt w ow f F) (A : Option Addr) (c : Nat) (b : List UInt8) (hb : RB w A b) (hd : ∀ a, A = some a -> 0 < b.length -> ow a.block = .dat) (hn : F.seen.length + b.length <= 1073741824) (hc : F.chs.length + 1 <= 1073741824) (hnew : ∀ i, w.heap.size <= i -> ow i = .other) :
  Calls Tryz.prog 164 #[.pointer (some ⟨f, 0, none⟩), .iface 247 (.agg #[.slice A b.length c])] w (FAdd w ow f { F with seen := F.seen ++ b, chs := F.chs ++ [.app b] }) := by
 obtain ⟨i0, hi, hz0, hz1, hz2⟩ := info_parts infoC8
 obtain ⟨vs, vf, vc, vals, hT, ht, ⟨hs, hst⟩, ⟨hf, hft⟩, ⟨hcc, hct⟩, hch⟩ := h
 obtain ⟨As, cs, rfl⟩ := own_slice hs
 obtain ⟨Af, cf, rfl⟩ := own_slice hf
 obtain ⟨Ac, cc, rfl⟩ := own_slice hcc
 have hdo := fun W hW hO hR => appended_any 0 (.slice As F.seen.length cs) F.seen b (by omega) A c W hW hO hR
 have c0 : w.cell? ⟨f, 0, none⟩ = some (.slice As F.seen.length cs) := (hT.cell 0).trans rfl
 have f0 := hT.frozen 0
 have na := nil_app A b.length c
 have me := meth_app A b.length c
 have HDO := hid hdo
 have HT := hid hT
 have HS := hid hs
 have HF := hid hf
 have HCC := hid hcc
 have HCH := hid hch
 have HST := hid hst
 have HFT := hid hft
 have HCT := hid hct
 have HTG := hid ht
 have HRB := hid hb
 have HD := hid hd
 have HNEW := hid hnew
 have hne : ∀ g, (Value.slice As F.seen.length cs).ownBlock = some g -> g ≠ f := fun g hg e => own_ne hs hT (by decide) (by rw [hg, e])
 have HNE := hid hne
 clear hdo hT hs hf hcc hch hst hft hct ht hb hd hnew hne
 go_enter Tryz.func164, Tryz.ntmps164
 go_wp2_with fail
 go_region_with (go_at_call 331; refine (HDO.out _ (Nat.zero_le _) (by exact HS.out) (by exact HRB.out)).mono ?_; rintro e w1 ⟨A1, c1, rfl, ho1, hg1, hl1⟩; have HT1 : Hid (Blk w1 f 159 #[.slice As F.seen.length cs, .slice Af F.safe.length cf, .slice Ac F.chs.length cc]) := (Blk.drew HT.out).grown hg1 (fun e => HNE.out f e.symm rfl); have d1 : w1.cell? ⟨f, 0, none⟩ = some (.slice As F.seen.length cs) := (HT1.out.cell 0).trans rfl; have e1 := HT1.out.frozen 0; have HO1 := hid ho1; have HG1 : Hid (w.grownBy w1 (Value.slice As F.seen.length cs).ownBlock) := hid ⟨hg1.os, hg1.tape, hg1.output, hg1.size, hg1.block⟩; have HL1 : Hid (∀ g, (Value.slice A1 (F.seen ++ b).length c1).ownBlock = some g -> (Value.slice As F.seen.length cs).ownBlock = some g \/ w.heap.size <= g) := hl1; clear ho1 hg1 hl1)
 all_goals
  have hln : (F.seen ++ b).length = F.seen.length + b.length := List.length_append
  have HT2 : Hid (Blk (w1.setCell ⟨f, 0, none⟩ (.slice A1 (F.seen.length + b.length) c1)) f 159 #[.slice A1 (F.seen.length + b.length) c1, .slice Af F.safe.length cf, .slice Ac F.chs.length cc]) := HT1.out.set_ 0 _
  have HC2 : Hid ((w1.setCell ⟨f, 0, none⟩ (.slice A1 (F.seen.length + b.length) c1)).ownsRow 0 250 1 (.slice Ac F.chs.length cc) F.chs.length vals) := hid (((own_keepH HCC.out fun g hg => HG1.out.block g (HCC.out.lt g hg).2 (fun e => own_disj HCC.out HS.out (by decide) g hg e.symm)) : w1.ownsRow 0 250 1 (.slice Ac F.chs.length cc) F.chs.length vals).kept (grown_set w1 f 0 _) (Or.inr (own_ne HCC.out HT.out (by decide))))
  have HLN := hid hln
  have HO1b := hid HO1.out
  clear c0 f0 na me HDO d1 e1 hln HT1 HNE
  have hlim : (F.chs.length + 1) * 16 <= 140737488355328 := by omega
  have hmx : F.chs.length + 1 <= maxLen := by unfold maxLen; omega
  have HLM := hid hlim
  have HMX := hid hmx
  have c2 : (w1.setCell ⟨f, 0, none⟩ (.slice A1 (F.seen.length + b.length) c1)).cell? ⟨f, 2, none⟩ = some (.slice Ac F.chs.length cc) := (HT2.out.cell 2).trans rfl
  clear hlim hmx
  have HWD : Hid (∃ w2 : World, w2 = w1.setCell ⟨f, 0, none⟩ (.slice A1 (F.seen.length + b.length) c1)) := ⟨_, rfl⟩
  obtain ⟨w2, hw2⟩ := HWD.out
  rw [<- hw2] at HT2 HC2 c2 ⊢
  have HW2 := hid hw2
  clear hw2 HWD
  go_wp2_with (first
   | (at_builtin; go_must (refine wpList_append_own_at _ rfl _ _ 155 rfl 0 250 i0 .nilIface 1 16 Tryz.underlying155 hi hz0 hz1 hz2 rfl (by decide) (.slice Ac F.chs.length cc) F.chs.length vals rfl (HC2.out.alloc _) ⟨w2.heap.size, 0, none⟩ 1 1 [.iface 247 (.agg #[.slice A b.length c])] rfl rfl (cell_one_new _ _ _) (by simp [Value.oneCell']) HMX.out HLM.out (Nat.zero_le _) ?_; intro v3 w3 hown3 hgr3 _ hloc3; obtain ⟨A3, c3, rfl⟩ := own_slice hown3; have HO3 := hid hown3; have HG3 := hid hgr3; have HL3 := hid hloc3; have HT3 : Hid (Blk w3 f 159 _) := (HT2.out.alloc _).grown hgr3 (fun e => own_ne HC2.out HT2.out (by decide) e.symm); have c4 : w3.cell? ⟨f, 2, none⟩ = some (.slice Ac F.chs.length cc) := (HT3.out.cell 2).trans rfl; have f4 := HT3.out.frozen 2; clear hown3 hgr3 hloc3 c2))
   | fail)
  go_end0
  have hg3 := HG3.out
  have hl3 := HL3.out
  rw [HW2.out, <- HLN.out] at hg3 hl3
  exact fadd_close HT.out HTG.out HS.out HST.out HF.out HFT.out HCC.out HCT.out HCH.out HRB.out HD.out HNEW.out HO1b.out HG1.out HL1.out HO3.out hg3 hl3
def FileV (w : World) (ow : Nat -> Tag) (f : Nat) (F : FileS) (vc : Value) (vals : List Value) : Prop := ∃ vs vf, Blk w f 159 #[vs, vf, vc] /\ ow f = .file f /\
 (w.ownsRow 0 5 1 vs F.seen.length (bc F.seen) /\ ∀ g, vs.ownBlock = some g -> ow g = .seen f) /\
 (w.ownsRow 0 5 1 vf F.safe.length (bc F.safe) /\ ∀ g, vf.ownBlock = some g -> ow g = .safe f) /\
 (w.ownsRow 0 250 1 vc F.chs.length vals /\ ∀ g, vc.ownBlock = some g -> ow g = .chg f) /\
 ∀ (i : Nat) (ch : FChg), F.chs[i]? = some ch -> ∃ v, vals[i]? = some v /\ ChgV w ow v ch
theorem FileAt.v {w : World} {ow : Nat -> Tag} {f : Nat} {F : FileS} (h : FileAt w ow f F) : ∃ vc vals, FileV w ow f F vc vals := by
 obtain ⟨vs, vf, vc, vals, h⟩ := h
 exact ⟨vc, vals, vs, vf, h⟩
theorem FileV.at_ {w : World} {ow : Nat -> Tag} {f : Nat} {F : FileS} {vc : Value} {vals : List Value} (h : FileV w ow f F vc vals) : FileAt w ow f F := by
 obtain ⟨vs, vf, h⟩ := h
 exact ⟨vs, vf, vc, vals, h⟩
theorem Fr.refl {C : Tag -> Prop} {ow : Nat -> Tag} {w : World} (hnew : ∀ i, w.heap.size <= i -> ow i = .other) : Fr C ow ow w w := ⟨rfl, rfl, rfl, Nat.le_refl _, fun _ _ _ => rfl, fun _ _ => rfl, fun i hi => Or.inl (hnew i hi)⟩
theorem Fr.trans {C : Tag -> Prop} {o1 o2 o3 : Nat -> Tag} {a b c : World} (h : Fr C o1 o2 a b) (k : Fr C o2 o3 b c) : Fr C o1 o3 a c := by
 refine ⟨k.os.trans h.os, k.tape.trans h.tape, k.output.trans h.output, Nat.le_trans h.size k.size, fun i hi hC => ?_, fun i hi => ?_, fun i hi => ?_⟩
 ·exact (k.keep i (Nat.lt_of_lt_of_le hi h.size) (by rw [h.old i hi]; exact hC)).trans (h.keep i hi hC)
 ·exact (k.old i (Nat.lt_of_lt_of_le hi h.size)).trans (h.old i hi)
 ·by_cases hb : i < b.heap.size
  ·rw [k.old i hb]
   exact h.new i hi
  ·exact k.new i (by omega)
theorem Fr.mono {C C' : Tag -> Prop} {o1 o2 : Nat -> Tag} {a b : World} (h : Fr C o1 o2 a b) (hC : ∀ t, C t -> C' t) : Fr C' o1 o2 a b :=
 ⟨h.os, h.tape, h.output, h.size, fun i hi hn => h.keep i hi fun e => hn (hC _ e), h.old, fun i hi => by rcases h.new i hi with e | e | e; exact Or.inl e; exact Or.inr (Or.inl e); exact Or.inr (Or.inr (hC _ e))⟩
theorem Fr.of_below {C : Tag -> Prop} {ow : Nat -> Tag} {w w' : World} (hb : Below w.heap.size w w') (hnew : ∀ i, w.heap.size <= i -> ow i = .other) : Fr C ow ow w w' := ⟨hb.os, hb.tape, hb.output, hb.size, fun i hi _ => hb.block i hi, fun _ _ => rfl, fun i hi => Or.inl (hnew i hi)⟩
theorem fsafe_close {w w1 : World} {ow : Nat -> Tag} {f : Nat} {F : FileS} {L : List UInt8} {S0 Vf Vc V1 : Value} {vals : List Value}
  (hT : Blk w f 159 #[S0, Vf, Vc]) (ht : ow f = .file f) (hs : w.ownsRow 0 5 1 S0 F.seen.length (bc F.seen)) (hst : ∀ g, S0.ownBlock = some g -> ow g = .seen f)
  (hf : w.ownsRow 0 5 1 Vf F.safe.length (bc F.safe)) (hft : ∀ g, Vf.ownBlock = some g -> ow g = .safe f)
  (hcc : w.ownsRow 0 250 1 Vc F.chs.length vals) (hct : ∀ g, Vc.ownBlock = some g -> ow g = .chg f)
  (hch : ∀ (i : Nat) (ch : FChg), F.chs[i]? = some ch -> ∃ v, vals[i]? = some v /\ ChgV w ow v ch) (hnew : ∀ i, w.heap.size <= i -> ow i = .other)
  (ho1 : w1.ownsRow 0 5 1 V1 L.length (bc L)) (hg1 : w.grownBy w1 Vf.ownBlock) (hl1 : ∀ g, V1.ownBlock = some g -> Vf.ownBlock = some g \/ w.heap.size <= g) :
  ∃ ow', FileV (w1.setCell ⟨f, 1, none⟩ V1) ow' f { F with safe := L } Vc vals /\ Fr (CFile f) ow ow' w (w1.setCell ⟨f, 1, none⟩ V1) /\ ∀ i, (w1.setCell ⟨f, 1, none⟩ V1).heap.size <= i -> ow' i = .other := by
 have z1 := hg1.size
 have zf : (w1.setCell ⟨f, 1, none⟩ V1).heap.size = w1.heap.size := size_set _ _ _
 have nff : Vf.ownBlock ≠ some f := own_ne hf hT (by decide)
 have hT1 : Blk w1 f 159 #[S0, Vf, Vc] := hT.grown hg1 (fun e => nff e.symm)
 have n1f : V1.ownBlock ≠ some f := own_ne ho1 hT1 (by decide)
 have keep : ∀ i, i < w.heap.size -> i ≠ f -> Vf.ownBlock ≠ some i -> (w1.setCell ⟨f, 1, none⟩ V1).heap[i]? = w.heap[i]? := fun i hi hif h1 => by
  rw [Below.heap_setCell _ _ _ _ (by exact hif), hg1.block i hi (fun e => h1 e.symm)]
 have hold : ∀ i, i < w.heap.size -> (if V1.ownBlock = some i then Tag.safe f else ow i) = ow i := fun i hi => by
  split
  ·rename_i h
   rcases hl1 i h with h1 | h1
   ·exact (hft i h1).symm
   ·omega
  ·rfl
 have hFr : Fr (CFile f) ow (fun i => if V1.ownBlock = some i then .safe f else ow i) w (w1.setCell ⟨f, 1, none⟩ V1) := by
  refine ⟨hg1.os, hg1.tape, hg1.output, by omega, fun i hi hC => ?_, hold, fun i hi => ?_⟩
  ·refine keep i hi ?_ ?_
   ·rintro rfl
    exact hC (Or.inl ht)
   ·intro e
    exact hC (Or.inr (Or.inr (Or.inl (hft i e))))
  ·show (if V1.ownBlock = some i then Tag.safe f else ow i) = .other \/ _
   split
   ·exact Or.inr (Or.inr (Or.inr (Or.inr (Or.inl rfl))))
   ·exact Or.inl (hnew i hi)
 refine ⟨_, ⟨S0, V1, hT1.set_ 1 V1, ?_, ⟨own_keepH hs fun g hg => ?_, fun g hg => ?_⟩, ⟨own_set (i := 1) ho1 n1f V1, fun g hg => by simp only [hg, if_true]⟩, ⟨own_keepH hcc fun g hg => ?_, fun g hg => ?_⟩, fun i ch hi => ?_⟩, hFr, fun i hi => ?_⟩
 ·show (if V1.ownBlock = some f then Tag.safe f else ow f) = .file f
  rw [if_neg n1f, ht]
 ·refine keep g (hs.lt g hg).2 (fun e => own_ne hs hT (by decide) (e ▸ hg)) (fun e => ?_)
  have := hft g e
  rw [hst g hg] at this
  cases this
 ·rw [hold g (hs.lt g hg).2]; exact hst g hg
 ·refine keep g (hcc.lt g hg).2 (fun e => own_ne hcc hT (by decide) (e ▸ hg)) (fun e => ?_)
  have := hft g e
  rw [hct g hg] at this
  cases this
 ·rw [hold g (hcc.lt g hg).2]; exact hct g hg
 ·obtain ⟨v, hv, hV⟩ := hch i ch hi
  exact ⟨v, hv, hV.keep hFr (by rintro (h | h | h | h) <;> cases h)⟩
 ·show (if V1.ownBlock = some i then Tag.safe f else ow i) = .other
  rw [if_neg (fun e => by have := ((own_set (i := 1) ho1 n1f V1).lt i e).2; omega)]
  exact hnew i (by omega)
theorem fclear_close {w : World} {ow : Nat -> Tag} {f : Nat} {F : FileS} {S0 Vf Vc : Value}
  (hT : Blk w f 159 #[S0, Vf, Vc]) (ht : ow f = .file f) (hs : w.ownsRow 0 5 1 S0 F.seen.length (bc F.seen)) (hst : ∀ g, S0.ownBlock = some g -> ow g = .seen f)
  (hf : w.ownsRow 0 5 1 Vf F.safe.length (bc F.safe)) (hft : ∀ g, Vf.ownBlock = some g -> ow g = .safe f) (hnew : ∀ i, w.heap.size <= i -> ow i = .other) :
  FileAt (w.setCell ⟨f, 2, none⟩ (.slice none 0 0)) ow f { F with chs := [] } /\ Fr (CFile f) ow ow w (w.setCell ⟨f, 2, none⟩ (.slice none 0 0)) /\ ∀ i, (w.setCell ⟨f, 2, none⟩ (.slice none 0 0)).heap.size <= i -> ow i = .other := by
 have nsf : S0.ownBlock ≠ some f := own_ne hs hT (by decide)
 have nff : Vf.ownBlock ≠ some f := own_ne hf hT (by decide)
 refine ⟨⟨S0, Vf, .slice none 0 0, [], hT.set_ 2 _, ht, ⟨own_set hs nsf _, hst⟩, ⟨own_set hf nff _, hft⟩, ⟨World.ownsRow_nil _ _ _ _, fun g hg => by cases hg⟩, fun i ch hi => by simp at hi⟩, ⟨rfl, rfl, rfl, by rw [size_set]; exact Nat.le_refl _, fun i hi hC => ?_, fun _ _ => rfl, fun i hi => Or.inl (hnew i hi)⟩, fun i hi => hnew i (by rw [size_set] at hi; exact hi)⟩
 refine Below.heap_setCell _ _ _ _ ?_
 rintro rfl
 exact hC (Or.inl ht)
def appCh (l : List UInt8) : FChg -> List UInt8
 | .app b => l ++ b
 | .cut n => l.take n
def appAll (chs : List FChg) (l : List UInt8) : List UInt8 := chs.foldl appCh l
theorem appAll_snoc (l : List UInt8) (chs : List FChg) (c : FChg) : appAll (chs ++ [c]) l = appCh (appAll chs l) c := by simp [appAll]
set_option maxHeartbeats 4000000 in
theorem settle_any (w : World) (ow : Nat -> Tag) (f : Nat) (F : FileS) (h : FileAt w ow f F) (hn : ∀ k, (appAll (F.chs.take k) F.safe).length <= 1073741824) (hc : F.chs.length <= 1073741824) (hnew : ∀ i, w.heap.size <= i -> ow i = .other) :
  Calls Tryz.prog 185 #[.pointer (some ⟨f, 0, none⟩)] w (FAdd w ow f { F with safe := appAll F.chs F.safe, chs := [] }) := by
 obtain ⟨vc, vals, hV⟩ := h.v
 obtain ⟨Ac, cc, rfl⟩ : ∃ A c, vc = .slice A F.chs.length c := by
  obtain ⟨vs, vf, _, _, _, _, ⟨h1, _⟩, _⟩ := hV
  exact own_slice h1
 have c2 : w.cell? ⟨f, 2, none⟩ = some (.slice Ac F.chs.length cc) := by
  obtain ⟨vs, vf, hT, _⟩ := hV
  exact (hT.cell 2).trans rfl
 have HV := hid hV
 have HN := hid hn
 have HNEW := hid hnew
 clear h hV hn hnew
 go_enter Tryz.func185, Tryz.ntmps185
 go_wp2_with fail
 clear c2
 go_loopw [9] (fun i wr => ∃ k : Nat, k <= F.chs.length /\ i = .int .i64 (k : Int) /\ Hid (∃ ow', FileV wr ow' f { F with safe := appAll (F.chs.take k) F.safe } (.slice Ac F.chs.length cc) vals /\ Fr (CFile f) ow ow' w wr /\ ∀ i, wr.heap.size <= i -> ow' i = .other)) (fun i _ => F.chs.length - (intOf i).toNat)
 case atStart => exact ⟨0, Nat.zero_le _, rfl, hid ⟨ow, by simpa [appAll] using HV.out, Fr.refl HNEW.out, HNEW.out⟩⟩
 case round =>
  obtain ⟨k, hk, rfl, HR⟩ := hrel
  obtain ⟨ow1, hV1, hF1, hN1⟩ := HR.out
  obtain ⟨S0, Vf, hT, ht, ⟨hs, hst⟩, ⟨hf, hft⟩, ⟨hcc, hct⟩, hch⟩ := hV1
  have HF1 := hid hF1
  clear hF1
  by_cases hlt : k < F.chs.length
  ·obtain ⟨ch, hchk⟩ : ∃ ch, F.chs[k]? = some ch := ⟨_, List.getElem?_eq_getElem hlt⟩
   obtain ⟨v, hv, hVk⟩ := hch k ch hchk
   cases ch with
   | cut n => exact hVk.elim
   | app b =>
    obtain ⟨A, c, rfl, hRB, hD⟩ := hVk
    have hat : appAll (F.chs.take (k + 1)) F.safe = appAll (F.chs.take k) F.safe ++ b := by
     rw [List.take_succ_eq_append_getElem hlt, appAll_snoc]
     have : F.chs[k] = .app b := Option.some.inj ((List.getElem?_eq_getElem hlt).symm.trans hchk)
     rw [this]
     rfl
    have hlen : (appAll (F.chs.take k) F.safe).length + b.length <= 1099511627776 := by
     have := HN.out (k + 1)
     rw [hat, List.length_append] at this
     omega
    obtain ⟨Af, cf, rfl⟩ := own_slice hf
    have hdo := fun W hW hO hR => appended_any 0 (.slice Af (appAll (F.chs.take k) F.safe).length cf) (appAll (F.chs.take k) F.safe) b hlen A c W hW hO hR
    obtain ⟨g, rfl, hgc⟩ : ∃ g, Ac = some ⟨g, 0, none⟩ /\ wr.cell? ⟨g, k, none⟩ = some (.iface 247 (.agg #[.slice A b.length c])) := by
     have hcl := fun g hg => hcc.cells (g := g) hg k _ hv
     rcases hcc.2 with ⟨_, h0⟩ | ⟨g, cap, cur, hvv, _⟩
     ·have : F.chs.length = 0 := h0
      omega
     ·injection hvv with h1
      subst h1
      refine ⟨g, rfl, ?_⟩
      have := hcl g rfl
      rwa [add_flat, Nat.zero_add] at this
    have c1 : wr.cell? ⟨f, 1, none⟩ = some (.slice Af (appAll (F.chs.take k) F.safe).length cf) := (hT.cell 1).trans rfl
    have na := nil_app A b.length c
    have me := meth_app A b.length c
    have HDO := hid hdo
    have HT := hid hT
    have HTG := hid ht
    have HS := hid hs
    have HST := hid hst
    have HFF := hid hf
    have HFT := hid hft
    have HCC := hid hcc
    have HCT := hid hct
    have HCH := hid hch
    have HN1 := hid hN1
    have HRB := hid hRB
    have HAT := hid hat
    clear hdo hT ht hs hst hf hft hcc hct hch hN1 hRB hD hat hlen hv hchk HR HV
    generalize appAll (F.chs.take k) F.safe = L at *
    go_wp2_with fail
    go_region_with (go_at_call 331; refine (HDO.out _ (Nat.zero_le _) (by exact HFF.out) (by exact HRB.out)).mono ?_; rintro e w1 ⟨A1, c1', rfl, ho1, hg1, hl1⟩; have HT1 : Hid (Blk w1 f 159 _) := (Blk.drew HT.out).grown hg1 (fun e => own_ne HFF.out HT.out (by decide) e.symm); have d1 : w1.cell? ⟨f, 1, none⟩ = some (.slice Af L.length cf) := (HT1.out.cell 1).trans rfl; have e1 := HT1.out.frozen 1; have HO1 := hid ho1; have HG1 : Hid (wr.grownBy w1 (Value.slice Af L.length cf).ownBlock) := hid ⟨hg1.os, hg1.tape, hg1.output, hg1.size, hg1.block⟩; have HL1 : Hid (∀ g, (Value.slice A1 (L ++ b).length c1').ownBlock = some g -> (Value.slice Af L.length cf).ownBlock = some g \/ wr.heap.size <= g) := hl1; clear ho1 hg1 hl1)
    all_goals
     have hln : (L ++ b).length = L.length + b.length := List.length_append
     have HQ : Hid (∃ ow', FileV (w1.setCell ⟨f, 1, none⟩ (.slice A1 (L.length + b.length) c1')) ow' f { F with safe := appAll (F.chs.take (k + 1)) F.safe } (.slice (some ⟨g, 0, none⟩) F.chs.length cc) vals /\ Fr (CFile f) ow ow' w (w1.setCell ⟨f, 1, none⟩ (.slice A1 (L.length + b.length) c1')) /\ ∀ i, (w1.setCell ⟨f, 1, none⟩ (.slice A1 (L.length + b.length) c1')).heap.size <= i -> ow' i = .other) := hid (by
      obtain ⟨ow2, q1, q2, q3⟩ := fsafe_close (F := { F with safe := L }) (L := L ++ b) HT.out HTG.out HS.out HST.out HFF.out HFT.out HCC.out HCT.out HCH.out HN1.out HO1.out HG1.out HL1.out
      rw [hln] at q1 q2 q3
      rw [HAT.out]
      exact ⟨ow2, q1, HF1.out.trans q2, q3⟩)
     clear hln hgc na me c1 d1 e1 HDO HT HTG HS HST HFF HFT HCC HCT HCH HN1 HRB HT1 HO1 HG1 HL1 HF1 HAT
     go_wp2_with fail
     go_roundw
     case rel => exact ⟨k + 1, by omega, by go_num, HQ⟩
     case measure => simp [intOf]; omega
  ·obtain rfl : k = F.chs.length := by omega
   rw [List.take_length] at hs hf hcc hch
   have c2 : wr.cell? ⟨f, 2, none⟩ = some (.slice Ac F.chs.length cc) := (hT.cell 2).trans rfl
   have f2 := hT.frozen 2
   have HQ := hid (fclear_close hT ht hs hst hf hft hN1)
   clear hT ht hs hst hf hft hcc hct hch hN1 HR HV
   go_wp2_with fail
   go_end0
   exact ⟨ow1, rfl, HQ.out.1, HF1.out.trans HQ.out.2.1, HQ.out.2.2⟩
def okc (n : Nat) : Prop := (97 <= n /\ n <= 122) \/ (48 <= n /\ n <= 57) \/ n = 46 \/ n = 45 \/ n = 95
instance (n : Nat) : Decidable (okc n) := by unfold okc; infer_instance
def GoodN (s : ByteArray) : Prop := 0 < s.size /\ s.size <= 32 /\ (∀ c, s.data.toList[0]? = some c -> c.toNat ≠ 46 /\ c.toNat ≠ 45 /\ c.toNat ≠ 95) /\ ∀ c ∈ s.data.toList, okc c.toNat
set_option maxHeartbeats 2000000 in
theorem good_any (s : ByteArray) (h : GoodN s) (w : World) : Calls Tryz.prog 169 #[.string s] w fun e w' => e = .returned (.bool true) /\ Below w.heap.size w w' := by
 obtain ⟨h0, h32, hd, hall⟩ := h
 have hcv := Lib.run_convert_string_bytes (P := Tryz.prog) w 9 74 5 s Tryz.underlying9 Tryz.underlying74 Tryz.underlying5
 have hc : ∀ j, j < s.size -> (Lib.bytesWorld w 5 s).cell? ⟨w.heap.size, j, none⟩ = some (.int .u8 (s.data.toList.getD j 0).toNat) := fun j hj => Lib.bytesWorld_cell w _ s j hj
 have hb := conv_below w 5 s
 generalize Lib.bytesWorld w 5 s = w1 at *
 generalize grownCap w s.size 0 5 = cap at *
 have hl : s.data.toList.length = s.size := by simp
 have hx := hd s[0] (by rw [List.getElem?_eq_getElem (by omega)]; rfl)
 obtain ⟨x1, x2, x3⟩ := hx
 have t1 : ((s[0].toNat : Int) == 46) = false := by rw [beq_eq_false_iff_ne]; omega
 have t2 : ((s[0].toNat : Int) == 45) = false := by rw [beq_eq_false_iff_ne]; omega
 have t3 : ((s[0].toNat : Int) == 95) = false := by rw [beq_eq_false_iff_ne]; omega
 have t0 : s.toList.isEmpty = false := by
  rw [ByteArray.toList_eq, List.isEmpty_eq_false_iff]
  intro e
  rw [e] at hl
  simp at hl
  omega
 have HALL := hid hall
 have HL := hid hl
 have HC := hid hc
 clear hd hall hl hc x1 x2 x3
 go_enter Tryz.func169, Tryz.ntmps169
 go_wp2_with fail
 clear hcv t0 t1 t2 t3
 go_loop [30] (fun i => ∃ j : Nat, j <= s.size /\ i = .int .i64 (j : Int)) (fun i => s.size - (intOf i).toNat)
 case atStart => exact ⟨0, Nat.zero_le _, rfl⟩
 case round =>
  obtain ⟨j, hj, rfl⟩ := hrel
  by_cases hlt : j < s.size
  ·have hcj := HC.out j hlt
   have hok : okc (s.data.toList.getD j 0).toNat := by
    rw [List.getD, List.getElem?_eq_getElem (by rw [HL.out]; exact hlt), Option.getD_some]
    exact HALL.out _ (List.getElem_mem _)
   generalize (s.data.toList.getD j 0).toNat = n at hcj hok
   unfold okc at hok
   rcases hok with ⟨a1, a2⟩ | ⟨a1, a2⟩ | rfl | rfl | rfl
   all_goals
    go_wp2_with fail
    go_round
    case rel => exact ⟨j + 1, by omega, by go_num⟩
    case measure => simp [intOf]; omega
  ·go_wp2_with fail
   go_ret
   exact ⟨rfl, hb⟩
end Go.Proofs.YtendlmdmbkcdnaaGreatDoor.oc
namespace Go.Proofs.YtendlmdmbkcdnaaGreatDoor.oc
open Go.RowKit Go.Maps Go.WideMaps
open Go.Lib (hid)
set_option maxRecDepth 100000
def fileR : Value -> Option (DataW Unit × List MemPlace)
 | .pointer none => some (.nil, [])
 | .pointer (some ⟨b, 0, none⟩) => some (.lit (.int .u64 (b : Int)), [])
 | _ => none
def key (s : ByteArray) : Lit := .string s.data.toList
def fv (f : Nat) : DataW Unit := .lit (.int .u64 (f : Int))
inductive DChg | made (n : ByteArray) (f : Nat) | ren (a b : ByteArray) | rem (n : ByteArray)
def doD (D : DataW Unit) : DChg -> DataW Unit
 | .made n f => D.put (key n) (fv f)
 | .ren a b => (D.put (key b) (D.atKey (key a) .nil)).del (key a)
 | .rem n => D.del (key n)
def DChgV (v : Value) : DChg -> Prop
 | .made n f => v = .iface 318 (.agg #[.string n, .pointer (some ⟨f, 0, none⟩)]) /\ n.size <= 1000
 | .ren a b => v = .iface 394 (.agg #[.string a, .string b]) /\ a.size <= 1000 /\ b.size <= 1000
 | .rem n => v = .iface 257 (.agg #[.string n]) /\ n.size <= 1000
structure DiskS where
 dir : DataW Unit
 safe : DataW Unit
 dchs : List DChg
 quota : Int
 used : Int
 fuse : Int
 dead : Bool
 ops : Int
 file : Nat -> Option FileS
 lim : Nat
def DiskV (w : World) (ow : Nat -> Tag) (d : Nat) (S : DiskS) (ms mf : Nat) (vc : Value) (dvals : List Value) : Prop :=
 Blk w d 127 #[.map (some ms), .map (some mf), vc, .int .i64 S.quota, .int .i64 S.used, .int .i64 S.fuse, .bool S.dead, .int .i64 S.ops] /\ ow d = .disk /\
 (w.ownsMap Tryz.prog 9 fileR ms S.lim S.dir /\ ow ms = .mseen) /\ (w.ownsMap Tryz.prog 9 fileR mf S.lim S.safe /\ ow mf = .msafe) /\
 (w.ownsRow 0 243 1 vc S.dchs.length dvals /\ ∀ g, vc.ownBlock = some g -> ow g = .dchg) /\
 (∀ (i : Nat) (ch : DChg), S.dchs[i]? = some ch -> ∃ v, dvals[i]? = some v /\ DChgV v ch) /\
 (∀ f F, S.file f = some F -> FileAt w ow f F) /\ (∀ i, w.heap.size <= i -> ow i = .other) /\ S.dchs.length <= S.lim /\ S.lim <= 1073741824
def DiskAt (w : World) (ow : Nat -> Tag) (d : Nat) (S : DiskS) : Prop := ∃ ms mf vc dvals, DiskV w ow d S ms mf vc dvals
theorem map_keepH {w w' : World} {P : Program} {k : TypeId} {R : Value -> Option (DataW Unit × List MemPlace)} {b n : Nat} {D : DataW Unit} (h : w.ownsMap P k R b n D) (hk : w'.heap[b]? = w.heap[b]?) : w'.ownsMap P k R b n D := by
 obtain ⟨es, clock, h1, h2⟩ := h
 exact ⟨es, clock, hk.trans h1, h2⟩
theorem DiskV.keep {w w' : World} {ow ow' : Nat -> Tag} {d : Nat} {S : DiskS} {ms mf : Nat} {vc : Value} {dvals : List Value} {C : Tag -> Prop} (h : DiskV w ow d S ms mf vc dvals) (hF : Fr C ow ow' w w') (hC : ∀ t, C t -> t = .other) (hnew : ∀ i, w'.heap.size <= i -> ow' i = .other) : DiskV w' ow' d S ms mf vc dvals := by
 obtain ⟨hB, ht, ⟨hm, hmt⟩, ⟨hf, hft⟩, ⟨hc, hct⟩, hch, hfs, _, hl1, hl2⟩ := h
 have hn : ∀ t : Tag, t ≠ .other -> ¬ C t := fun t h1 h2 => h1 (hC t h2)
 refine ⟨blk_keepH hB (hF.keep _ hB.lt (by rw [ht]; exact hn _ (by intro e; cases e))), by rw [hF.old _ hB.lt]; exact ht, ⟨map_keepH hm (hF.keep _ hm.lt (by rw [hmt]; exact hn _ (by intro e; cases e))), by rw [hF.old _ hm.lt]; exact hmt⟩, ⟨map_keepH hf (hF.keep _ hf.lt (by rw [hft]; exact hn _ (by intro e; cases e))), by rw [hF.old _ hf.lt]; exact hft⟩, ⟨own_keepH hc fun g hg => hF.keep _ (hc.lt g hg).2 (by rw [hct g hg]; exact hn _ (by intro e; cases e)), fun g hg => by rw [hF.old _ (hc.lt g hg).2]; exact hct g hg⟩, hch, fun f F h => (hfs f F h).keep hF (hn _ (by intro e; cases e)) (hn _ (by intro e; cases e)) (hn _ (by intro e; cases e)) (hn _ (by intro e; cases e)) (hn _ (by intro e; cases e)), hnew, hl1, hl2⟩
theorem DiskV.new {w : World} {ow : Nat -> Tag} {d : Nat} {S : DiskS} {ms mf : Nat} {vc : Value} {dvals : List Value} (h : DiskV w ow d S ms mf vc dvals) : ∀ i, w.heap.size <= i -> ow i = .other := h.2.2.2.2.2.2.2.1
theorem DiskV.below {w w' : World} {ow : Nat -> Tag} {d : Nat} {S : DiskS} {ms mf : Nat} {vc : Value} {dvals : List Value} (h : DiskV w ow d S ms mf vc dvals) (hb : Below w.heap.size w w') : DiskV w' ow d S ms mf vc dvals :=
 h.keep (C := fun _ => False) (Fr.of_below hb h.new) (fun _ e => e.elim) (fun i hi => h.new i (Nat.le_trans hb.size hi))
theorem DiskAt.below {w w' : World} {ow : Nat -> Tag} {d : Nat} {S : DiskS} (h : DiskAt w ow d S) (hb : Below w.heap.size w w') : DiskAt w' ow d S := by
 obtain ⟨ms, mf, vc, dvals, h⟩ := h
 exact ⟨ms, mf, vc, dvals, h.below hb⟩
theorem lawS : Keyed Tryz.prog 9 := string_keyed Tryz.underlying9
theorem zeroF (w : World) : (zeroValue 160).run Tryz.prog w = .ok (.pointer none) w := by kernel_rfl
theorem fileR_nil {v : Value} {ps : List MemPlace} (h : fileR v = some (.nil, ps)) : v = .pointer none := by
 unfold fileR at h
 split at h
 ·rfl
 ·cases h
 ·cases h
theorem fileR_fv {v : Value} {f : Nat} {ps : List MemPlace} (h : fileR v = some (fv f, ps)) : v = .pointer (some ⟨f, 0, none⟩) := by
 unfold fileR fv at h
 split at h
 ·cases h
 ·injection h with h
  injection h with h _
  injection h with h
  injection h with _ h
  have := Int.ofNat.inj h
  subst this
  rfl
 ·cases h
def EntF (D : DataW Unit) (s : ByteArray) (f : Nat) : Prop := D.atKey (key s) .nil = fv f /\ Maps.has D (key s) = true
def NoEnt (D : DataW Unit) (s : ByteArray) : Prop := D.atKey (key s) .nil = .nil /\ Maps.has D (key s) = false
theorem look_no {W : World} {ms n : Nat} {D : DataW Unit} (h : W.ownsMap Tryz.prog 9 fileR ms n D) (s : ByteArray) (hs : s.size <= 1000) (he : NoEnt D s) : (Instr.lookup 122 (.map (some ms)) (.string s) true).run Tryz.prog W = .ok (.tuple #[.pointer none, .bool false]) W := by
 obtain ⟨v, ps, hr, hv⟩ := h.look_ok lawS Tryz.underlying122 (zeroF W) (zd := .nil) (zp := []) rfl (keyOf_string_mk (s := s) Tryz.underlying9 (by unfold maxLen; omega))
 rw [show D.atKey (.string s.data.toList) .nil = .nil from he.1] at hv
 rw [show Maps.has D (.string s.data.toList) = false from he.2] at hr
 obtain rfl := fileR_nil hv
 exact hr
theorem look_yes {W : World} {ms n f : Nat} {D : DataW Unit} (h : W.ownsMap Tryz.prog 9 fileR ms n D) (s : ByteArray) (hs : s.size <= 1000) (he : EntF D s f) : (Instr.lookup 122 (.map (some ms)) (.string s) true).run Tryz.prog W = .ok (.tuple #[.pointer (some ⟨f, 0, none⟩), .bool true]) W := by
 obtain ⟨v, ps, hr, hv⟩ := h.look_ok lawS Tryz.underlying122 (zeroF W) (zd := .nil) (zp := []) rfl (keyOf_string_mk (s := s) Tryz.underlying9 (by unfold maxLen; omega))
 rw [show D.atKey (.string s.data.toList) .nil = fv f from he.1] at hv
 rw [show Maps.has D (.string s.data.toList) = true from he.2] at hr
 obtain rfl := fileR_fv hv
 exact hr
theorem at_no (w : World) (ow : Nat -> Tag) (d : Nat) (S : DiskS) (h : DiskAt w ow d S) (hd : S.dead = false) (s : ByteArray) (hs : GoodN s) (he : NoEnt S.dir s) : Calls Tryz.prog 119 #[.pointer (some ⟨d, 0, none⟩), .string s] w fun e w' => e = .returned (.tuple #[.pointer none, .int .i64 31]) /\ Below w.heap.size w w' := by
 obtain ⟨ms, mf, vc, dvals, hV⟩ := h
 have c6 : w.cell? ⟨d, 6, none⟩ = some (.bool false) := (hV.1.cell 6).trans (by simp [hd])
 have HV := hid hV
 have HG := hid hs
 have HE := hid he
 clear hV hs he hd
 go_enter Tryz.func119, Tryz.ntmps119
 go_wp2_with (first | (go_at_call 169; refine (good_any _ HG.out _).mono ?_; rintro e w1 ⟨rfl, hb1⟩; have c0 : w1.cell? ⟨d, 0, none⟩ = some (.map (some ms)) := ((HV.out.below hb1).1.cell 0).trans rfl; have hlk := look_no (HV.out.below hb1).2.2.1.1 s (Nat.le_trans HG.out.2.1 (by decide)) HE.out) | go_in)
 go_ret2
 exact ⟨rfl, hb1⟩
theorem at_yes (w : World) (ow : Nat -> Tag) (d f : Nat) (S : DiskS) (h : DiskAt w ow d S) (hd : S.dead = false) (s : ByteArray) (hs : GoodN s) (he : EntF S.dir s f) : Calls Tryz.prog 119 #[.pointer (some ⟨d, 0, none⟩), .string s] w fun e w' => e = .returned (.tuple #[.pointer (some ⟨f, 0, none⟩), .int .i64 0]) /\ Below w.heap.size w w' := by
 obtain ⟨ms, mf, vc, dvals, hV⟩ := h
 have c6 : w.cell? ⟨d, 6, none⟩ = some (.bool false) := (hV.1.cell 6).trans (by simp [hd])
 have HV := hid hV
 have HG := hid hs
 have HE := hid he
 clear hV hs he hd
 go_enter Tryz.func119, Tryz.ntmps119
 go_wp2_with (first | (go_at_call 169; refine (good_any _ HG.out _).mono ?_; rintro e w1 ⟨rfl, hb1⟩; have c0 : w1.cell? ⟨d, 0, none⟩ = some (.map (some ms)) := ((HV.out.below hb1).1.cell 0).trans rfl; have hlk := look_yes (HV.out.below hb1).2.2.1.1 s (Nat.le_trans HG.out.2.1 (by decide)) HE.out) | go_in)
 go_ret2
 exact ⟨rfl, hb1⟩
end Go.Proofs.YtendlmdmbkcdnaaGreatDoor.oc
