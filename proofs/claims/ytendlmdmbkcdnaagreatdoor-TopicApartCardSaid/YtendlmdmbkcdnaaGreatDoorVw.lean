/-
  Texts of the proof joined by a program: Tph.
-/
import Derived.Test.YtendlmdmbkcdnaaGreatDoorVq
import Derived.Test.YtendlmdmbkcdnaaGreatDoorVv
set_option linter.unusedSimpArgs false
set_option linter.unusedVariables false
namespace Go.Proofs.YtendlmdmbkcdnaaGreatDoor.tp
open Go.RowKit Go.Maps Go.WideMaps oc rc gh dk sg ma hi kd dd
open Go.Lib (hid)
set_option maxRecDepth 100000
set_option maxHeartbeats 4000000 in
theorem files_nil (w : World) (G : Gh) (d : Nat) (q : Int) (no L : Nat) (h : DK w G d q [] no L) (id lim ret : Int) :
  Calls Tryz.prog 38 #[.agg (placeC d id lim ret)] w fun e w' => e = .returned (.tuple #[.slice none 0 0, .int .i64 0]) /\ Below w.heap.size w w' := by
 have HK := hid h
 clear h
 unfold placeC
 go_enter Tryz.func38, Tryz.ntmps38
 go_wp2_with fail
 obtain ⟨w0, hw0⟩ : ∃ x, w.alloc (.cells #[.pointer (some ⟨d, 0, none⟩), .int .i64 id, .int .i64 lim, .int .i64 ret] 102) = x := ⟨_, rfl⟩
 have HB0 : Hid (Below w.heap.size w w0) := by rw [<- hw0]; exact hid ((Below.refl _ _).alloc (Nat.le_refl _) _)
 try rw [hw0]
 clear hw0
 refine (Go.Proofs.YtendlmdmbkcdnaaGreatDoor.ri.dk_list w0 G d q [] no L (HK.out.below HB0.out) (by simp)).mono ?_
 rintro e w1 ⟨v, ss, rfl, hv, hp, _, hb1⟩
 have hs0 : ss = [] := by simpa using hp
 subst hs0
 have hv0 := hv rfl
 subst hv0
 have HB1 : Hid (Below w.heap.size w w1) := hid (HB0.out.trans (hb1.mono HB0.out.size))
 clear hv hp hb1
 go_wp2_with fail
 go_loop [6, 21] (fun x y => x = .slice none 0 0 /\ y = .int .i64 0) (fun _ _ => 0)
 case atStart => exact ⟨rfl, rfl⟩
 case round =>
  obtain ⟨rfl, rfl⟩ := hrel
  go_wp2_with fail
  go_ret2
  exact ⟨rfl, HB1.out⟩
def newS (i lim ret k : Nat) : TS := ⟨i, lim, ret, nextMan i 2 0 k man0 1 [], [], 1, 0, [], [], .map [], .map [], .nil, k, 0⟩
theorem newS_seg (i lim ret k : Nat) : (newS i lim ret k).seg = seg0 lim (inf0 i 1 0) (extN 0 (headN i 1 0)) := by
 simp [TS.seg, newS, seg0, inf0, segB, bodyR]
theorem tabok0 (n : Nat) : TabOk (.map []) n := ⟨by decide, fun x hx => by cases hx⟩
theorem manok0 {i k : Nat} (hi : i < 1073741824) (hk : k < 1125899906842624) : ManOk (nextMan i 2 0 k man0 1 []) where
 id := hi
 next0 := Nat.le_refl _
 next1 := by show 2 <= _; omega
 next := Nat.zero_le _
 mark := Nat.le_refl _
 clock := hk
 len0 := Nat.le_refl _
 len1 := by show 1 <= 64; omega
 segs := fun s hs => by
  have h : s ∈ ([1] : List Nat) := hs
  rw [List.mem_singleton] at h
  subst h
  exact ⟨Nat.le_refl _, by show 1 < 2; omega⟩
 apart := by show ([1] : List Nat).Nodup; simp
 plen := Nat.zero_le _
 rise := fun j p r h _ => by cases h
 prods := fun p h => by cases h
def NewOut (w : World) (G : Gh) (τ d i lim ret k : Nat) (q : Int) (no L : Nat) (e : Ending) (w' : World) : Prop :=
 ∃ t G' f f2, e = .returned (.tuple #[.pointer (some ⟨t, 0, none⟩), .int .i64 0]) /\ w.heap.size <= t /\
  TopAt w' G' τ t d (newS i lim ret k) q [⟨Sb (manName i), f2, fNew (manN (newS i lim ret k).man)⟩, ⟨Sb (nameN i ((1 : Nat) : Int)), f, fSync (fApp ⟨[], [], []⟩ (headN i 1 0))⟩] (no + 8) (L + 6) /\ Fx (CT τ) G G' w w'
set_option maxHeartbeats 8000000 in
theorem tcreate_any (w : World) (G : Gh) (τ d i lim ret k : Nat) (q : Int) (no L : Nat) (hk : DK w G d q [] no L) (hf : Fin G w) (ht : TabG w G) (h1 : i < 1073741824) (h2 : 256 <= lim /\ lim <= 65536) (h3 : ret <= 1099511627776) (h4 : k < 1125899906842624) (hno : no + 10 <= 1099511627776) (hL : L + 12 <= 1073741824) :
  Calls Tryz.prog 8 #[.pointer (some ⟨d, 0, none⟩), .int .i64 (i : Int), .int .i64 (lim : Int), .int .i64 (ret : Int), .int .i64 (k : Int)] w fun e w' =>
   NewOut w G τ d i lim ret k q no L e w' \/ (e = .returned (.tuple #[.pointer none, .int .i64 33]) /\ q < (21 + (manN (newS i lim ret k).man).length : Nat) /\ ∃ G', Fx (CT τ) G G' w w') := by
 have HFT := hid (fit_ok w d i lim ret k ⟨by omega, by omega⟩ ⟨by omega, by omega⟩ ⟨by omega, by omega⟩ ⟨by omega, by omega⟩)
 have HFR := hid (fresh_any w G τ d i lim ret k hf)
 have HK := hid hk
 have HF := hid hf
 have HT := hid ht
 have HI := hid (And.intro h1 h4)
 have HLM := hid h2
 have HNO := hid hno
 have HLL := hid hL
 clear hk hf ht h1 h2 h3 h4 hno hL
 unfold placeC at HFR
 go_enter Tryz.func8, Tryz.ntmps8
 go_wp2_with fail
 refine HFT.out.mono ?_
 rintro e w0 ⟨rfl, rfl⟩
 go_wp2_with fail
 refine HFR.out.mono ?_
 rintro e w1 ⟨t, dr, tb, tm, al, am, td, ch, G1, rfl, ht1, htop, hdir, htab, hall, hch, hb1, hx1, hfn1, how1⟩
 have HTOP := hid htop
 have HDIR := hid hdir
 have HTAB := hid htab
 have HALL := hid hall
 have HCH := hid hch
 have HB1 := hid hb1
 have HX1 := hid hx1
 have HFN1 := hid hfn1
 have HTL : Hid (w0.heap.size <= t) := hid ht1
 have HK1 : Hid (DK w1 G1 d q [] no L) := hid (HK.out.keep hx1 (fun _ _ h => h.elim) (fun j hj => by rw [how1]; exact HF.out.ow j hj))
 have HT1 : Hid (TabG w1 G1) := hid (HT.out.keep hx1 (fun h => h))
 clear HFT HFR ht1 htop hdir htab hall hch hb1 hx1 hfn1 how1
 have kt : ∀ W, Below w1.heap.size w1 W -> BlkR W G1 t 110 (tc0 d i lim ret k dr tb al td ch).cells (some (τ, .top)) := fun W hb => HTOP.out.keep (C := CN) (Fx.below hb) (fun h => h)
 have KTT := hid kt
 have f0 : w1.cell? ⟨t, 0, none⟩ = some (.pointer (some ⟨d, 0, none⟩)) := (HTOP.out.cell 0).trans rfl
 have f1 : w1.cell? ⟨t, 1, none⟩ = some (.int .i64 (i : Int)) := (HTOP.out.cell 1).trans rfl
 have f2 : w1.cell? ⟨t, 2, none⟩ = some (.int .i64 (lim : Int)) := (HTOP.out.cell 2).trans rfl
 have f3 : w1.cell? ⟨t, 3, none⟩ = some (.int .i64 (ret : Int)) := (HTOP.out.cell 3).trans rfl
 clear kt
 go_wp2_with fail
 refine (files_nil w1 G1 d q no L HK1.out i lim ret).mono ?_
 rintro e w2 ⟨rfl, hb2⟩
 have HB2 : Hid (Below w1.heap.size w1 w2) := hid hb2
 clear f0 f1 f2 f3 hb2
 have f0 : w2.cell? ⟨t, 0, none⟩ = some (.pointer (some ⟨d, 0, none⟩)) := ((KTT.out w2 HB2.out).cell 0).trans rfl
 have f1 : w2.cell? ⟨t, 1, none⟩ = some (.int .i64 (i : Int)) := ((KTT.out w2 HB2.out).cell 1).trans rfl
 have f2 : w2.cell? ⟨t, 2, none⟩ = some (.int .i64 (lim : Int)) := ((KTT.out w2 HB2.out).cell 2).trans rfl
 have f3 : w2.cell? ⟨t, 3, none⟩ = some (.int .i64 (ret : Int)) := ((KTT.out w2 HB2.out).cell 3).trans rfl
 go_wp2_with fail
 refine (remove_nil w2 d i lim ret).mono ?_
 rintro e w3 ⟨rfl, hb3⟩
 have HB3 : Hid (Below w1.heap.size w1 w3) := hid (HB2.out.trans (hb3.mono HB2.out.size))
 clear f0 f1 f2 f3 hb3
 have HK3 := hid (HK1.out.below HB3.out)
 have HFN3 : Hid (Fin G1 w3) := hid (HFN1.out.more HB3.out.size)
 have HT3 := hid (HT1.out.below HB3.out)
 have HTP3 := hid (KTT.out w3 HB3.out)
 have HTB3 := hid (HTAB.out.keep (C := CN) (Fx.below HB3.out) (fun h => h) (fun h => h))
 go_wp2_with fail
 by_cases hq : ((21 + (manN (newS i lim ret k).man).length : Nat) : Int) <= q
 ·have HQ := hid hq
  clear hq
  refine (extend_any w3 G1 τ t (tc0 d i lim ret k dr tb al td ch) i 1 0 k lim q [] [] no L tm 0 (.map []) 0 (.map []) ?_).mono ?_
  ·exact { top := HTP3.out, eid := rfl, elim := rfl, enext := rfl, eclock := rfl, enseg := rfl, i1 := HI.out.1, ns1 := (by decide), en1 := (by decide), lim0 := HLM.out.1, lim1 := HLM.out.2, segs := fun h => absurd h (Nat.lt_irrefl _), cold := fun p hp => (by cases hp), segsl := Nat.zero_le _, tab := HTB3.out, tabok := tabok0 _, cached := HCH.out.keep (C := CN) (Fx.below HB3.out) (fun h => h), cnl := Nat.zero_le _, dk := HK3.out, fin := HFN3.out, tg := HT3.out, no1 := (by have := HNO.out; omega), L1 := (by have := HLL.out; omega), len := (by decide), nm := fun z hz => (by cases hz), ntmp := fun z hz => (by cases hz), man := Or.inl ⟨rfl, fun z hz => (by cases hz)⟩, ok := fun ps hps _ => (by rw [prods0 hps]; exact manok0 HI.out.1 HI.out.2), room := fun ps hps _ => by rw [prods0 hps]; have h1 := HQ.out; simp only [newS] at h1; show ((sumF [] + 21 + (manN (nextMan i 2 0 k man0 1 [])).length : Nat) : Int) <= q; have e0 : sumF [] = 0 := rfl; omega }
  rintro e w4 ⟨G', g, A, c1, B, c2, ps, f, f2, rfl, hps, hpl, ht4, hi4, hci4, hp4, hcp4, hs4, hm4, hk4, hx4, hfn4⟩
  have hps0 := prods0 hps
  subst hps0
  have HFIN : Hid (NewOut w0 G τ d i lim ret k q no L (.returned (.tuple #[.pointer (some ⟨t, 0, none⟩), .int .i64 0])) w4) := hid (by
   refine ⟨t, G', f, f2, rfl, HTL.out, ⟨⟨{ tc0 d i lim ret k dr tb al td ch with man := nextMan i 2 0 k man0 1 [], sA := A, sc := c1, pA := B, pc := c2, seg := some ⟨g, 0, none⟩, nextSeg := ((2 : Nat) : Int) }, g, tm, 0, am, 0, 1, (DataW.map []).put (.int .i64 ((1 : Nat) : Int)) .nil⟩, ?_⟩, ?_⟩
   ·exact
    {top := ht4
     ed := rfl
     eid := rfl
     elim := rfl
     eret := rfl
     eman := rfl
     eseg := rfl
     ewn := rfl
     enext := rfl
     eclock := rfl
     enseg := rfl
     egone := rfl
     segs := hi4
     cold := hci4
     seg := by rw [newS_seg]; exact hs4
     dir := (HDIR.out.keep (C := CN) (Fx.below HB3.out) (fun h => h) (fun h => h)).keep hx4 (cx_no (by simp) (by simp)) cx_none
     tab := HTB3.out.keep hx4 (cx_no (by simp) (by simp)) (cx_no (by simp) (by simp))
     all := (HALL.out.keep (C := CN) (Fx.below HB3.out) (fun h => h) (fun h => h)).keep hx4 (cx_no (by simp) (by simp)) (cx_no (by simp) (by simp))
     waits := ⟨World.ownsRow_nil _ _ _ _, fun b hb => by cases hb⟩
     cached := hm4
     rows := fun s rl hm => by
      obtain ⟨rfl, rfl⟩ : s = 1 /\ rl = [] := by simpa [TS.rows, newS] using hm
      exact ⟨none, none, 0, rfl, atKey_put_same isMap_empty isKeyLit_int _ _, World.ownsRow_nil _ _ _ _, fun b hb => by cases hb⟩
     dk := hk4
     fin := hfn4
     tg := HT3.out.keep hx4 cx_none
     cn1 := Nat.le_refl _
     an1 := Nat.zero_le _
     tnm := fun e => by
      have e1 := HALL.out.2.1.2
      have e2 := HALL.out.2.2.2
      have e3 : al = am := e
      rw [e3, e2] at e1
      simp at e1 }
   ·exact ((HX1.out.mono ct_n).trans (Fx.below HB3.out)).trans (hx4.mono cx_ct))
  clear hps hpl ht4 hi4 hci4 hp4 hcp4 hs4 hm4 hk4 hx4 hfn4
  go_wp2_with fail
  go_ret2
  exact Or.inl HFIN.out
 ·have HQ := hid hq
  clear hq
  refine (extend_full w3 G1 τ t (tc0 d i lim ret k dr tb al td ch) i 1 k lim q [] no L tm 0 (.map []) ?_ ?_).mono ?_
  ·exact { top := HTP3.out, eid := rfl, elim := rfl, enext := rfl, eclock := rfl, enseg := rfl, i1 := HI.out.1, ns1 := (by decide), lim0 := HLM.out.1, lim1 := HLM.out.2, segs := fun h => absurd h (Nat.lt_irrefl _), cold := fun p hp => (by cases hp), segsl := Nat.zero_le _, tab := HTB3.out, tabok := tabok0 _, dk := HK3.out, fin := HFN3.out, tg := HT3.out, no1 := (by have := HNO.out; omega), L1 := (by have := HLL.out; omega), len := (by decide), nm := fun z hz => (by cases hz), ntmp := fun z hz => (by cases hz), nman := fun z hz => (by cases hz), ok := manok0 HI.out.1 HI.out.2 }
  ·have h1 := HQ.out
   simp only [newS] at h1
   show q < ((sumF [] + 21 : Nat) : Int) \/ (((sumF [] + 21 : Nat) : Int) <= q /\ q < ((sumF [] + 21 + (manN (nextMan i (1 + 1) 0 k man0 1 [])).length : Nat) : Int))
   have e0 : sumF [] = 0 := rfl
   rw [e0]
   show q < ((0 + 21 : Nat) : Int) \/ (((0 + 21 : Nat) : Int) <= q /\ q < ((0 + 21 + (manN (nextMan i 2 0 k man0 1 [])).length : Nat) : Int))
   omega
  rintro e w4 ⟨rfl, G', hx4⟩
  have HX4 : Hid (Fx (CT τ) G G' w0 w4) := hid (((HX1.out.mono ct_n).trans (Fx.below HB3.out)).trans (hx4.mono cx_ct))
  clear hx4
  go_wp2_with fail
  go_ret2
  exact Or.inr ⟨rfl, by have := HQ.out; omega, G', HX4.out⟩
end Go.Proofs.YtendlmdmbkcdnaaGreatDoor.tp
