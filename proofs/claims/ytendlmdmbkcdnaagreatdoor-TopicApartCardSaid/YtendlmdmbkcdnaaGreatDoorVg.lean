/-
  Texts of the proof joined by a program: Ddc Ddd Gha Ghb Osp Osq Osv Qta Kda.
-/
import Derived.Test.YtendlmdmbkcdnaaGreatDoorVf
import Derived.Test.YtendlmdmbkcdnaaGreatDoorVc
import Derived.Lib.QuietBelow
import Derived.StillTail
import Derived.Test.YtendlmdmbkcdnaaGreatDoorVa
set_option linter.unusedSimpArgs false
set_option linter.unusedVariables false
namespace Go.Proofs.YtendlmdmbkcdnaaGreatDoor.dd
open Go.RowKit Go.Maps Go.WideMaps oc
open Go.Lib (hid)
set_option maxRecDepth 100000
theorem TabAt.below {w w' : World} {t m n : Nat} {D : DataW Unit} (h : TabAt w t m n D) (hb : Below w.heap.size w w') : TabAt w' t m n D :=
 ⟨h.1.below hb h.1.lt, map_keepH h.2 (hb.block m h.2.lt)⟩
set_option maxHeartbeats 4000000 in
theorem note_fresh (w : World) (t m n : Nat) (D : DataW Unit) (h : TabAt w t m n D) (pid seq off a s o : Int) (known : Bool) (hp : goodP pid seq = true) (hk : Knows D pid known a s o) (hs : 0 <= s /\ s < 1099511627776) (hj : (judgeN known s o seq (Maps.size D)).1 = 1) (ho : 0 <= off /\ off < 1099511627776) (hn : n <= 1073741824) (hne : t ≠ m) :
  Calls Tryz.prog 52 #[.pointer (some ⟨t, 0, none⟩), .int .i64 pid, .int .i64 seq, .int .i64 off] w fun e w' => e = .returned (.int .i64 0) /\ TabAt w' t m (n + 1) (D.put (key pid) (prodD pid seq off)) /\ ∃ W, Below w.heap.size w W /\ W.grownBy w' (some m) := by
 have hp2 := hp
 simp only [goodP, Bool.and_eq_true, decide_eq_true_eq] at hp2
 have HRF := hid (refuse_any w t m n D h pid seq a s o known hp hk hs)
 have HJG := hid (fun w1 (hb : Below w.heap.size w w1) => judge_any w1 t m n D (h.below hb) pid seq a s o known hp hk hs)
 have HT := hid h
 have hkI := keyI pid (by omega) (by omega)
 have n2 : ∀ w, Calls Tryz.prog 111 #[.int .i64 off] w fun e w' => e = .returned (.bool true) /\ w' = w := fun w => by
  have := offset_any w off
  rwa [show (decide (0 <= off) && decide (off < 1099511627776)) = true by simp [ho.1, ho.2]] at this
 rw [hj] at HRF
 have HRF2 : Hid (Calls Tryz.prog 49 #[.pointer (some ⟨t, 0, none⟩), .int .i64 pid, .int .i64 seq] w fun e w' => e = .returned (.int .i64 0) /\ Below w.heap.size w w') := HRF
 rcases hv : judgeN known s o seq (Maps.size D) with ⟨v, y⟩
 rw [hv] at HJG hj
 dsimp only at hj
 subst hj
 have HN := hid hn
 have hnil : ∀ w, (binOp .eql 210 (.map (some m)) (.map none)).run Tryz.prog w = .ok (.bool false) w := fun _ => by kernel_rfl
 clear h hp hk hs HRF hn hv hp2
 go_enter Tryz.func52, Tryz.ntmps52
 go_wp2_with fail
 refine HRF2.out.mono ?_
 rintro e w1 ⟨rfl, hb1⟩
 have HB1 := hid hb1
 clear hb1
 go_wp2_with fail
 refine (n2 _).mono ?_
 rintro e w2 ⟨rfl, rfl⟩
 go_wp2_with fail
 refine (HJG.out _ HB1.out).mono ?_
 rintro e w3 ⟨rfl, hb3⟩
 have HB3 : Hid (Below w.heap.size w w3) := hid (HB1.out.trans (hb3.mono HB1.out.size))
 have HT3 := hid (HT.out.below HB3.out)
 have c0 : w3.cell? ⟨t, 0, none⟩ = some (.map (some m)) := (HT3.out.1.cell 0).trans rfl
 clear hb3
 go_wp2_with (first
  | (at_mapUpdate; go_must (refine wpList_mapUpdate_own _ rfl _ _ _ 210 rfl 2 208 lawI Tryz.underlying210 prodR m n _ rfl HT3.out.2 (by have := HN.out; unfold maxLen; omega) _ _ _ rfl rfl hkI (prodD pid seq off) [] rfl ?_; intro w4 hown4 hgrow4; have HO := hid hown4; have HG := hid hgrow4; clear hown4 hgrow4))
  | fail)
 go_ret
 exact ⟨rfl, ⟨HT3.out.1.grown HG.out (fun e => hne (by first | exact Option.some.inj e | exact (Option.some.inj e).symm)), HO.out⟩, w3, HB3.out, HG.out⟩
end Go.Proofs.YtendlmdmbkcdnaaGreatDoor.dd
namespace Go.Proofs.YtendlmdmbkcdnaaGreatDoor.dd
open Go.RowKit Go.Maps Go.WideMaps oc
set_option maxRecDepth 100000
set_option maxHeartbeats 2000000 in
theorem new_nil (w : World) (c : Nat) : Calls Tryz.prog 94 #[.slice none 0 c] w fun e w' => e = .returned (.tuple #[.pointer (some ⟨w.heap.size + 1, 0, none⟩), .int .i64 0]) /\ TabAt w' (w.heap.size + 1) w.heap.size 0 (.map []) /\ Below w.heap.size w w' := by
 have hmm := @run_makeMap Tryz.prog
 go_enter Tryz.func94, Tryz.ntmps94
 go_wp2
 go_loop [15] (fun x => x = .int .i64 0) (fun _ => 0)
 case atStart => rfl
 case round =>
  subst hrel
  go_wp2
  go_ret2
  refine ⟨rfl, ⟨?_, ?_⟩, ?_⟩
  ·have := Blk.new (w.alloc (.map #[] 0)) 212 #[.map (some w.heap.size)]
   simpa using this
  ·exact (World.ownsMap_made w _ _ _).alloc _
  ·exact ((Below.refl _ _).alloc (Nat.le_refl _) _).alloc (by simp) _
end Go.Proofs.YtendlmdmbkcdnaaGreatDoor.dd
namespace Go.Proofs.YtendlmdmbkcdnaaGreatDoor.gh
open Go.RowKit Go.Maps Go.WideMaps oc
set_option maxRecDepth 100000
inductive Part
 | top | seg | places | order | dir | tab | tabm | all | allm | cached | waits | segs | prods | told
 | row (n : Int)
abbrev Role := Option (Nat × Part)
structure Gh where
 ow : Nat -> Tag
 rl : Nat -> Role
def Is (G : Gh) (b : Nat) (r : Role) : Prop := G.ow b = .other /\ G.rl b = r
def Fin (G : Gh) (w : World) : Prop := ∀ i, w.heap.size <= i -> Is G i none
structure Fx (C : Tag -> Role -> Prop) (G G' : Gh) (w w' : World) : Prop where
 os : w'.os = w.os
 tape : w'.tape = w.tape
 output : w'.output = w.output
 size : w.heap.size <= w'.heap.size
 keep : ∀ i, i < w.heap.size -> ¬ C (G.ow i) (G.rl i) -> w'.heap[i]? = w.heap[i]?
 ow : ∀ i, i < w.heap.size -> G'.ow i = G.ow i
 rl : ∀ i, i < w.heap.size -> G'.rl i = G.rl i
def CN : Tag -> Role -> Prop := fun _ _ => False
def CK : Tag -> Role -> Prop := fun t _ => CD t
def CR (r : Role) : Tag -> Role -> Prop := fun t x => t = .other /\ x = r
section
variable {C C' : Tag -> Role -> Prop} {G G' G'' : Gh} {w w' w'' : World}
theorem Fx.refl (C : Tag -> Role -> Prop) (G : Gh) (w : World) : Fx C G G w w := ⟨rfl, rfl, rfl, Nat.le_refl _, fun _ _ _ => rfl, fun _ _ => rfl, fun _ _ => rfl⟩
theorem Fx.mono (h : Fx C G G' w w') (hC : ∀ t r, C t r -> C' t r) : Fx C' G G' w w' := ⟨h.os, h.tape, h.output, h.size, fun i hi hn => h.keep i hi (fun x => hn (hC _ _ x)), h.ow, h.rl⟩
theorem Fx.trans (h : Fx C G G' w w') (k : Fx C G' G'' w' w'') : Fx C G G'' w w'' :=
 ⟨k.os.trans h.os, k.tape.trans h.tape, k.output.trans h.output, Nat.le_trans h.size k.size,
  fun i hi hn => (k.keep i (Nat.lt_of_lt_of_le hi h.size) (by rw [h.ow i hi, h.rl i hi]; exact hn)).trans (h.keep i hi hn),
  fun i hi => (k.ow i (Nat.lt_of_lt_of_le hi h.size)).trans (h.ow i hi), fun i hi => (k.rl i (Nat.lt_of_lt_of_le hi h.size)).trans (h.rl i hi)⟩
theorem Fx.below (hb : Below w.heap.size w w') : Fx C G G w w' := ⟨hb.os, hb.tape, hb.output, hb.size, fun i hi _ => hb.block i hi, fun _ _ => rfl, fun _ _ => rfl⟩
theorem Fx.disk {ow' : Nat -> Tag} (h : Fr CD G.ow ow' w w') : Fx CK G ⟨ow', G.rl⟩ w w' := ⟨h.os, h.tape, h.output, h.size, fun i hi hn => h.keep i hi hn, h.old, fun _ _ => rfl⟩
theorem Fx.grown {b : Nat} {r : Role} (h : w.grownBy w' (some b)) (hr : Is G b r) : Fx (CR r) G G w w' := ⟨h.os, h.tape, h.output, h.size, fun i hi hn => h.block i hi (fun e => hn (by injection e with e; subst e; exact hr)), fun _ _ => rfl, fun _ _ => rfl⟩
theorem Fx.grownv {o : Option Nat} {r : Role} (h : w.grownBy w' o) (hr : ∀ b, o = some b -> Is G b r) : Fx (CR r) G G w w' := ⟨h.os, h.tape, h.output, h.size, fun i hi hn => h.block i hi (fun e => hn (hr i e.symm)), fun _ _ => rfl, fun _ _ => rfl⟩
theorem Fx.set {b : Nat} {r : Role} (i : Nat) (v : Value) (hr : Is G b r) : Fx (CR r) G G w (w.setCell ⟨b, i, none⟩ v) :=
 ⟨rfl, rfl, rfl, by rw [size_set]; exact Nat.le_refl _, fun j _ hn => Below.heap_setCell _ _ _ _ (by rintro rfl; exact hn hr), fun _ _ => rfl, fun _ _ => rfl⟩
def Gh.put (G : Gh) (b : Nat) (r : Role) : Gh := ⟨G.ow, fun i => if i = b then r else G.rl i⟩
theorem Gh.put_same (G : Gh) (b : Nat) (r : Role) (h : G.ow b = .other) : Is (G.put b r) b r := ⟨h, by simp [Gh.put]⟩
theorem Gh.put_other {G : Gh} {b i : Nat} {r x : Role} (h : Is G i x) (hn : i ≠ b) : Is (G.put b r) i x := ⟨h.1, by simp [Gh.put, hn, h.2]⟩
theorem Fx.put {b : Nat} (hb : w.heap.size <= b) (r : Role) (h : Fx C G G' w w') : Fx C G (G'.put b r) w w' :=
 ⟨h.os, h.tape, h.output, h.size, h.keep, h.ow, fun i hi => by
  show (if i = b then r else G'.rl i) = _
  rw [if_neg (by omega)]
  exact h.rl i hi⟩
theorem Fin.put {b : Nat} (h : Fin G w) (hb : b < w.heap.size) (r : Role) : Fin (G.put b r) w := fun i hi => Gh.put_other (h i hi) (by omega)
theorem Fin.more (h : Fin G w) (hs : w.heap.size <= w'.heap.size) : Fin G w' := fun i hi => h i (by omega)
theorem Fin.ow (h : Fin G w) : ∀ i, w.heap.size <= i -> G.ow i = .other := fun i hi => (h i hi).1
theorem Is.keep {b : Nat} {r : Role} (h : Is G b r) (hF : Fx C G G' w w') (hb : b < w.heap.size) : Is G' b r := ⟨(hF.ow b hb).trans h.1, (hF.rl b hb).trans h.2⟩
end
def BlkR (w : World) (G : Gh) (b : Nat) (t : TypeId) (cs : Array Value) (r : Role) : Prop := Blk w b t cs /\ Is G b r
def RowR (w : World) (G : Gh) (t : TypeId) (z : Nat) (v : Value) (n : Nat) (xs : List Value) (r : Role) : Prop := w.ownsRow 0 t z v n xs /\ ∀ b, v.ownBlock = some b -> Is G b r
def MapR (w : World) (G : Gh) (k : TypeId) (R : Value -> Option (DataW Unit × List MemPlace)) (b n : Nat) (D : DataW Unit) (r : Role) : Prop := w.ownsMap Tryz.prog k R b n D /\ Is G b r
section
variable {C : Tag -> Role -> Prop} {G G' : Gh} {w w' : World} {b n z : Nat} {t : TypeId} {cs : Array Value} {r : Role} {v : Value} {xs : List Value} {R : Value -> Option (DataW Unit × List MemPlace)} {D : DataW Unit}
theorem BlkR.keep (h : BlkR w G b t cs r) (hF : Fx C G G' w w') (hC : ¬ C .other r) : BlkR w' G' b t cs r :=
 ⟨blk_keepH h.1 (hF.keep b h.1.lt (by rw [h.2.1, h.2.2]; exact hC)), h.2.keep hF h.1.lt⟩
theorem RowR.keep (h : RowR w G t z v n xs r) (hF : Fx C G G' w w') (hC : ¬ C .other r) : RowR w' G' t z v n xs r :=
 ⟨own_keepH h.1 fun g hg => hF.keep g (h.1.lt g hg).2 (by rw [(h.2 g hg).1, (h.2 g hg).2]; exact hC), fun g hg => (h.2 g hg).keep hF (h.1.lt g hg).2⟩
theorem MapR.keep (h : MapR w G t R b n D r) (hF : Fx C G G' w w') (hC : ¬ C .other r) : MapR w' G' t R b n D r :=
 ⟨map_keepH h.1 (hF.keep b h.1.lt (by rw [h.2.1, h.2.2]; exact hC)), h.2.keep hF h.1.lt⟩
theorem BlkR.set (h : BlkR w G b t cs r) (i : Nat) (u : Value) : BlkR (w.setCell ⟨b, i, none⟩ u) G b t (cs.setIfInBounds i u) r := ⟨h.1.set_ i u, h.2⟩
theorem BlkR.cell (h : BlkR w G b t cs r) (i : Nat) : w.cell? ⟨b, i, none⟩ = cs[i]? := h.1.cell i
theorem BlkR.frozen (h : BlkR w G b t cs r) (i : Nat) : w.frozen? ⟨b, i, none⟩ = false := h.1.frozen i
theorem RowR.none_ (w : World) (G : Gh) (t : TypeId) (z c : Nat) (r : Role) : RowR w G t z (.slice none 0 0) 0 [] r := ⟨World.ownsRow_nil _ _ _ _, fun b e => by simp [Value.ownBlock] at e⟩
theorem disk_keep {d : Nat} {S : DiskS} (h : DiskAt w G.ow d S) (hF : Fx C G G' w w') (hC : ∀ t r, C t r -> t = .other) (hn : ∀ i, w.heap.size <= i -> G'.ow i = .other) : DiskAt w' G'.ow d S := by
 obtain ⟨ms, mf, vc, dvals, hV⟩ := h
 exact ⟨ms, mf, vc, dvals, hV.keep (C := fun t => t = .other) ⟨hF.os, hF.tape, hF.output, hF.size, fun i hi hc => hF.keep i hi (fun x => hc (hC _ _ x)), hF.ow, fun i hi => Or.inl (hn i hi)⟩ (fun _ e => e) (fun i hi => hn i (Nat.le_trans hF.size hi))⟩
end
def anyR : Value -> Option (DataW Unit × List MemPlace) := fun _ => some (.nil, [])
def keyL (n : Int) : Lit := .int .i64 n
theorem keyI (x : Int) (h0 : -9223372036854775808 <= x) (h1 : x <= 9223372036854775807) : keyOf Tryz.prog 3 (.int .i64 x) = some (.int .i64 x) := keyOf_int_mk Tryz.underlying3 (by simp [Lit.wf, show IntKind.i64.min = -9223372036854775808 from rfl, show IntKind.i64.max = 9223372036854775807 from rfl]; omega)
theorem lawN : Keyed Tryz.prog 3 := int_keyed Tryz.underlying3
theorem infoI : (Tryz.prog.info? 3).map (fun i => (i.zero, i.size, i.bytes)) = some (some (.int .i64 0), 1, 8) := by kernel_rfl
section
variable {C : Tag -> Role -> Prop} {G G' : Gh} {w w' W : World} {b n m z : Nat} {t : TypeId} {r : Role} {v v' : Value} {xs ys : List Value}
theorem own_some (h : w.ownsRow 0 t z v n xs) (hn : 0 < n) : ∃ b, v.ownBlock = some b /\ b < w.heap.size := by
 obtain ⟨g, cap, rfl, _, hlt⟩ := h.form hn
 exact ⟨g, rfl, hlt⟩
theorem row_app (h : RowR w G t z v n xs r) (hW : Below w.heap.size w W) (ho : W.grownBy w' v.ownBlock) (h' : w'.ownsRow 0 t z v' m ys) (hm : 0 < m) (hl : v'.ownBlock = v.ownBlock \/ v'.ownBlock = some W.heap.size) (hf : Fin G w) :
  ∃ G', RowR w' G' t z v' m ys r /\ Fx (CR r) G G' w w' /\ Fin G' w' /\ G'.ow = G.ow := by
 obtain ⟨b, hb, hlt⟩ := own_some h' hm
 have hgo : ∀ g, v.ownBlock = some g -> Is G g r := h.2
 have hF : Fx (CR r) G G w w' := (Fx.below hW).trans (Fx.grownv ho hgo)
 refine ⟨G.put b r, ⟨h', fun g hg => ?_⟩, ?_, fun i hi => Gh.put_other (hf i (Nat.le_trans hF.size hi)) (by omega), rfl⟩
 ·rw [hb] at hg
  cases hg
  refine Gh.put_same G b r ?_
  rcases hl with hl | hl
  ·exact (hgo b (by rw [<- hl, hb])).1
  ·rw [hb] at hl
   cases hl
   exact (hf _ hW.size).1
 ·refine ⟨hF.os, hF.tape, hF.output, hF.size, hF.keep, hF.ow, fun i hi => ?_⟩
  show (if i = b then r else G.rl i) = G.rl i
  by_cases e : i = b
  ·subst e
   rw [if_pos rfl]
   rcases hl with hl | hl
   ·exact (hgo i (by rw [<- hl, hb])).2.symm
   ·rw [hb] at hl
    cases hl
    exact absurd hi (by have := hW.size; omega)
  ·rw [if_neg e]
theorem Fx.map (h : w.grownBy w' (some b)) (hr : Is G b r) : Fx (CR r) G G w w' := Fx.grown h hr
theorem Fx.cr (h : Fx (CR r) G G' w w') (hC : ∀ t, t = .other -> C t r) : Fx C G G' w w' := h.mono fun t x hx => by
 obtain ⟨h1, rfl⟩ := hx
 exact hC t h1
end
end Go.Proofs.YtendlmdmbkcdnaaGreatDoor.gh
namespace Go.Proofs.YtendlmdmbkcdnaaGreatDoor.oc
open Go.RowKit Go.Maps Go.WideMaps
open Go.Lib (hid)
set_option maxRecDepth 100000
theorem size_no (w : World) (ow : Nat -> Tag) (d : Nat) (S : DiskS) (h : DiskAt w ow d S) (hd : S.dead = false) (s : ByteArray) (hs : GoodN s) (he : NoEnt S.dir s) : Calls Tryz.prog 123 #[.pointer (some ⟨d, 0, none⟩), .string s] w fun e w' => e = .returned (.tuple #[.int .i64 0, .int .i64 31]) /\ Below w.heap.size w w' := by
 have HAT := hid (at_no w ow d S h hd s hs he)
 clear h hd hs he
 go_enter Tryz.func123, Tryz.ntmps123
 go_wp2_with fail
 refine HAT.out.mono ?_
 rintro e w1 ⟨rfl, hb1⟩
 clear HAT
 go_wp2_with fail
 go_ret2
 exact ⟨rfl, hb1⟩
theorem size_yes (w : World) (ow : Nat -> Tag) (d f : Nat) (S : DiskS) (F : FileS) (h : DiskAt w ow d S) (hd : S.dead = false) (s : ByteArray) (hs : GoodN s) (he : EntF S.dir s f) (hF : S.file f = some F) : Calls Tryz.prog 123 #[.pointer (some ⟨d, 0, none⟩), .string s] w fun e w' => e = .returned (.tuple #[.int .i64 F.seen.length, .int .i64 0]) /\ Below w.heap.size w w' := by
 have HAT := hid (at_yes w ow d f S h hd s hs he)
 have HH := hid h
 clear h hd hs he
 go_enter Tryz.func123, Tryz.ntmps123
 go_wp2_with fail
 refine HAT.out.mono ?_
 rintro e w1 ⟨rfl, hb1⟩
 obtain ⟨ms, mf, vc, dvals, hV⟩ := HH.out.below hb1
 obtain ⟨vs, vf, vc2, vals, hB, ht, ⟨hs, _⟩, _⟩ := hV.2.2.2.2.2.2.1 f F hF
 obtain ⟨As, cs, rfl⟩ := own_slice hs
 have c0 : w1.cell? ⟨f, 0, none⟩ = some (.slice As F.seen.length cs) := (hB.cell 0).trans rfl
 clear HAT hV hB hs
 go_wp2_with fail
 go_ret2
 exact ⟨rfl, hb1⟩
end Go.Proofs.YtendlmdmbkcdnaaGreatDoor.oc
namespace Go.Proofs.YtendlmdmbkcdnaaGreatDoor.oc
open Go.RowKit Go.Maps Go.WideMaps
set_option maxRecDepth 100000
theorem key_ne {s t : ByteArray} (h : t ≠ s) : key t ≠ key s := by
 intro e
 unfold key at e
 injection e with e
 apply h
 have : t.data = s.data := by
  apply Array.ext'
  exact e
 cases t
 cases s
 simp_all
theorem key_lit (s : ByteArray) : WideAt.IsKeyLit (key s) := by
 simp [key, WideAt.IsKeyLit]
theorem DiskAt.map {w : World} {ow : Nat -> Tag} {d : Nat} {S : DiskS} (h : DiskAt w ow d S) : IsMap S.dir /\ IsMap S.safe := by
 obtain ⟨ms, mf, vc, dvals, h⟩ := h
 exact ⟨h.2.2.1.1.isMap, h.2.2.2.1.1.isMap⟩
theorem ent_made {D : DataW Unit} (hD : IsMap D) (s : ByteArray) (f : Nat) : EntF (doD D (.made s f)) s f := ⟨atKey_put_same hD (key_lit s) _ _, has_put_same hD (key_lit s) _⟩
theorem ent_made_other {D : DataW Unit} {s t : ByteArray} {f g : Nat} (h : EntF D t g) (hn : t ≠ s) : EntF (doD D (.made s f)) t g := ⟨(atKey_put_other (key_ne hn) _ _).trans h.1, (has_put_other (key_ne hn) _).trans h.2⟩
theorem noent_made_other {D : DataW Unit} {s t : ByteArray} {f : Nat} (h : NoEnt D t) (hn : t ≠ s) : NoEnt (doD D (.made s f)) t := ⟨(atKey_put_other (key_ne hn) _ _).trans h.1, (has_put_other (key_ne hn) _).trans h.2⟩
theorem ent_ren {D : DataW Unit} (hD : IsMap D) {a b : ByteArray} {f : Nat} (h : EntF D a f) (hn : b ≠ a) : EntF (doD D (.ren a b)) b f := by
 refine ⟨(atKey_del_other (key_ne hn) _).trans ((atKey_put_same hD (key_lit b) _ _).trans h.1), (has_del_other (key_ne hn)).trans (has_put_same hD (key_lit b) _)⟩
theorem noent_ren {D : DataW Unit} {a b : ByteArray} : NoEnt (doD D (.ren a b)) a := ⟨atKey_del_same _, has_del_same⟩
theorem ent_ren_other {D : DataW Unit} {a b t : ByteArray} {g : Nat} (h : EntF D t g) (h1 : t ≠ a) (h2 : t ≠ b) : EntF (doD D (.ren a b)) t g := ⟨(atKey_del_other (key_ne h1) _).trans ((atKey_put_other (key_ne h2) _ _).trans h.1), (has_del_other (key_ne h1)).trans ((has_put_other (key_ne h2) _).trans h.2)⟩
theorem noent_ren_other {D : DataW Unit} {a b t : ByteArray} (h : NoEnt D t) (h1 : t ≠ a) (h2 : t ≠ b) : NoEnt (doD D (.ren a b)) t := ⟨(atKey_del_other (key_ne h1) _).trans ((atKey_put_other (key_ne h2) _ _).trans h.1), (has_del_other (key_ne h1)).trans ((has_put_other (key_ne h2) _).trans h.2)⟩
def DInv (S : DiskS) : Prop := S.dir = doAll S.dchs S.safe /\ ∀ (k : Nat) ch, S.dchs[k]? = some ch -> ChOk (doAll (S.dchs.take k) S.safe) ch
theorem DInv.add {S S' : DiskS} {ch : DChg} (h : DInv S) (hok : ChOk S.dir ch) (h1 : S'.dir = doD S.dir ch) (h2 : S'.safe = S.safe) (h3 : S'.dchs = S.dchs ++ [ch]) : DInv S' := by
 refine ⟨by rw [h1, h2, h3, doAll_snoc, h.1], fun k c hk => ?_⟩
 rw [h3] at hk ⊢
 rw [h2]
 by_cases hlt : k < S.dchs.length
 ·rw [List.take_append_of_le_length (by omega)]
  exact h.2 k c (by simpa [List.getElem?_append_left hlt] using hk)
 ·have hil : k = S.dchs.length := by
   have := (List.getElem?_eq_some_iff.1 hk).1
   simp at this
   omega
  subst hil
  have : c = ch := by simpa using hk.symm
  subst this
  rw [List.take_append_of_le_length (Nat.le_refl _), List.take_length, <- h.1]
  exact hok
theorem DInv.sync {S S' : DiskS} (h : DInv S) (h1 : S'.dir = S.dir) (h2 : S'.safe = doAll S.dchs S.safe) (h3 : S'.dchs = []) : DInv S' := by
 refine ⟨by rw [h1, h2, h3, h.1]; rfl, fun k c hk => ?_⟩
 rw [h3] at hk
 simp at hk
theorem DInv.same {S S' : DiskS} (h : DInv S) (h1 : S'.dir = S.dir) (h2 : S'.safe = S.safe) (h3 : S'.dchs = S.dchs) : DInv S' := by
 unfold DInv
 rw [h1, h2, h3]
 exact h
end Go.Proofs.YtendlmdmbkcdnaaGreatDoor.oc
namespace Go.Proofs.YtendlmdmbkcdnaaGreatDoor.oc
open Go.RowKit
open Go.Lib (hid)
set_option maxRecDepth 100000
def cmpL : List UInt8 -> List UInt8 -> Int
 | [], [] => 0
 | [], _ :: _ => -1
 | _ :: _, [] => 1
 | x :: a, y :: b => if x.toNat < y.toNat then -1 else if y.toNat < x.toNat then 1 else cmpL a b
theorem cmpL_at (a b : ByteArray) (i : Nat) (ha : i < a.size) (hb : i < b.size) : cmpL (a.data.toList.drop i) (b.data.toList.drop i) = if (a[i]'ha).toNat < (b[i]'hb).toNat then -1 else if (b[i]'hb).toNat < (a[i]'ha).toNat then 1 else cmpL (a.data.toList.drop (i + 1)) (b.data.toList.drop (i + 1)) := by
 have e1 : a.data.toList.drop i = a[i]'ha :: a.data.toList.drop (i + 1) := List.drop_eq_getElem_cons (by simpa using ha)
 have e2 : b.data.toList.drop i = b[i]'hb :: b.data.toList.drop (i + 1) := List.drop_eq_getElem_cons (by simpa using hb)
 rw [e1, e2, cmpL]
theorem cmpL_end (a b : ByteArray) (i : Nat) (h : i = min a.size b.size) : cmpL (a.data.toList.drop i) (b.data.toList.drop i) = min (max ((a.size : Int) - b.size) (-1)) 1 := by
 have h1 : (a.data.toList.drop i).length = a.size - i := by simp
 have h2 : (b.data.toList.drop i).length = b.size - i := by simp
 rcases Nat.lt_trichotomy a.size b.size with h3 | h3 | h3
 ·obtain hx : a.data.toList.drop i = [] := List.eq_nil_of_length_eq_zero (by omega)
  obtain ⟨y, ys, hy⟩ : ∃ y ys, b.data.toList.drop i = y :: ys := List.exists_cons_of_length_pos (by omega)
  rw [hx, hy, cmpL]
  omega
 ·obtain hx : a.data.toList.drop i = [] := List.eq_nil_of_length_eq_zero (by omega)
  obtain hy : b.data.toList.drop i = [] := List.eq_nil_of_length_eq_zero (by omega)
  rw [hx, hy, cmpL]
  omega
 ·obtain ⟨y, ys, hy⟩ : ∃ y ys, a.data.toList.drop i = y :: ys := List.exists_cons_of_length_pos (by omega)
  obtain hx : b.data.toList.drop i = [] := List.eq_nil_of_length_eq_zero (by omega)
  rw [hx, hy, cmpL]
  omega
theorem ret_int {x y : Int} (h : x = y) : Ending.returned (.int .i64 x) = .returned (.int .i64 y) := by rw [h]
set_option maxHeartbeats 2000000 in
theorem compare_any (a b : ByteArray) (ha : a.size <= 1073741824) (hb : b.size <= 1073741824) (w : World) : Calls Tryz.prog 104 #[.string a, .string b] w fun e w' => e = .returned (.int .i64 (cmpL a.data.toList b.data.toList)) /\ Below w.heap.size w w' := by
 obtain ⟨res, hres⟩ : ∃ x, cmpL a.data.toList b.data.toList = x := ⟨_, rfl⟩
 rw [hres]
 have HRES := hid hres
 clear hres
 go_enter Tryz.func104, Tryz.ntmps104
 go_wp2_with fail
 all_goals
  go_loopw [11] (fun i wr => ∃ k : Nat, k <= min a.size b.size /\ i = .int .i64 (k : Int) /\ Hid (cmpL (a.data.toList.drop k) (b.data.toList.drop k) = res) /\ Hid (Below w.heap.size w wr)) (fun i _ => min a.size b.size - (intOf i).toNat)
  case atStart => exact ⟨0, Nat.zero_le _, rfl, hid (by simpa using HRES.out), hid (Below.refl _ _)⟩
  case round =>
   obtain ⟨k, hk, rfl, HR, HB0⟩ := hrel
   by_cases hlt : k < min a.size b.size
   ·have hA : k < a.size := by omega
    have hB : k < b.size := by omega
    have hx := cmpL_at a b k hA hB
    rw [HR.out] at hx
    have HX := hid hx
    clear hx
    go_wp2_with fail
    rcases Nat.lt_trichotomy (a[k]'hA).toNat (b[k]'hB).toNat with h1 | h1 | h1
    ·have h2 : ((a[k]'hA).toNat : Int) < ((b[k]'hB).toNat : Int) := by omega
     have h3 : res = -1 := by rw [HX.out, if_pos h1]
     subst h3
     go_quiet (fail)
     go_wp2_with fail
     go_ret
     exact ⟨rfl, by exact below_drewN HB0.out _⟩
    ·have h2 : ¬ ((a[k]'hA).toNat : Int) < ((b[k]'hB).toNat : Int) := by omega
     have h3 : ¬ ((b[k]'hB).toNat : Int) < ((a[k]'hA).toNat : Int) := by omega
     have HY : Hid (cmpL (a.data.toList.drop (k + 1)) (b.data.toList.drop (k + 1)) = res) := hid (by rw [HX.out, if_neg (by omega), if_neg (by omega)])
     go_quiet (fail)
     go_wp2_with fail
     go_quiet (fail)
     go_wp2_with fail
     go_roundw
     case rel => exact ⟨k + 1, by omega, by go_num, HY, hid (by exact below_drewN HB0.out _)⟩
     case measure => simp [intOf]; omega
    ·have h2 : ¬ ((a[k]'hA).toNat : Int) < ((b[k]'hB).toNat : Int) := by omega
     have h4 : ((b[k]'hB).toNat : Int) < ((a[k]'hA).toNat : Int) := by omega
     have h3 : res = 1 := by rw [HX.out, if_neg (by omega), if_pos h1]
     subst h3
     go_quiet (fail)
     go_wp2_with fail
     go_quiet (fail)
     go_wp2_with fail
     go_ret
     exact ⟨rfl, by exact below_drewN (below_drewN HB0.out _) _⟩
   ·have hx := cmpL_end a b k (by omega)
    rw [HR.out] at hx
    have HX := hid hx
    clear hx
    go_wp2_with fail
    all_goals
     have e := HX.out
     go_ret
     refine ⟨ret_int ?_, by exact HB0.out⟩
     rw [e, Int.max_def, Int.min_def]
     repeat' split
     all_goals omega
end Go.Proofs.YtendlmdmbkcdnaaGreatDoor.oc
namespace Go.Proofs.YtendlmdmbkcdnaaGreatDoor.oc
open Go
open Go.RowKit
section
variable {P : Program} {ops : Array Oper} {C : World -> Prop}
def sinksB (ops : Array Oper) (m n : Nat) : Bool :=
 (List.range n).all fun i => decide (i < m) || (List.range (n + 1)).any fun j => decide (i < j) && Region.waitsFor .any ops j i
theorem no_tail {m n : Nat} {listed : Array Bool} (hs : sinksB ops m n = true) (hc : Region.chainB .any ops n = true) (inv : HeadInv .any ops n listed) (hn : n < ops.size) :
  ∀ (d i : Nat), n - i = d -> m <= i -> i < n -> listed.getD i true = false -> ∀ t, n <= t -> t ∉ Region.ready .any ops listed := by
 intro d
 induction d using Nat.strongRecOn with
 | _ d ih =>
  intro i hd hm hi hu t ht hr
  have hr' := mem_ready.1 hr
  obtain ⟨-, o, ho, hall⟩ := hr'
  have hts : t < ops.size := (Array.getElem?_eq_some_iff.1 ho).1
  rcases Nat.lt_or_ge n t with hlt | hge
  ·have hw := List.all_eq_true.1 hc t (List.mem_range.2 hts)
   simp only [Bool.or_eq_true, decide_eq_true_eq] at hw
   obtain ⟨o', ho', e, he, hb, hon⟩ := Region.waitsFor_spec (hw.resolve_left (by omega))
   rw [ho] at ho'
   cases ho'
   have h2 := hall e he hb
   rw [hon, getD_both (inv.tail (t - 1) (by omega) (by omega))] at h2
   cases h2
  ·have htn : t = n := by omega
   subst htn
   have hw := List.all_eq_true.1 hs i (List.mem_range.2 hi)
   simp only [Bool.or_eq_true, decide_eq_true_eq, List.any_eq_true, Bool.and_eq_true] at hw
   obtain ⟨j, hj, hij, hwj⟩ := hw.resolve_left (by omega)
   have hjn := List.mem_range.1 hj
   obtain ⟨o', ho', e, he, hb, hon⟩ := Region.waitsFor_spec hwj
   cases hl : listed.getD j false with
   | true =>
    have h2 := inv.closed j o' ho' hl e he hb
    rw [hon, getD_both hu] at h2
    cases h2
   | false =>
    by_cases hjt : j = t
    ·subst hjt
     rw [ho] at ho'
     cases ho'
     have h2 := hall e he hb
     rw [hon, getD_both hu] at h2
     cases h2
    ·exact ih (t - j) (by omega) j rfl (by omega) (by omega) (getD_in (by rw [inv.size]; omega) hl) t (Nat.le_refl _) hr
def headQ (P : Program) (ops : Array Oper) (C : World -> Prop) (n : Nat) (L : Array Bool -> Act -> Prop) : Nat -> Array Bool -> Act -> Prop
 | 0, listed, a => L listed a
 | f + 1, listed, a => Region.ready .any ops listed ≠ [] /\ ∀ i ∈ Region.ready .any ops listed, i < n /\ qOp P ops C i (headQ P ops C n L f (listed.setIfInBounds i true)) a
theorem wpAny_of_headQ {n g : Nat} {L : Array Bool -> Act -> Prop} {Q : Exit -> Act -> World -> Prop} (hL : ∀ listed a w, C w -> L listed a -> wpAny P .any ops Q g listed a w) :
  ∀ (f : Nat) (listed : Array Bool) (a : Act) (w : World), C w -> headQ P ops C n L f listed a -> wpAny P .any ops Q (g + f) listed a w := by
 intro f
 induction f with
 | zero => intro listed a w hw h; exact hL _ _ _ hw h
 | succ f ih =>
  intro listed a w hw h
  exact ⟨fun h0 => absurd h0 h.1, fun i hi => wpOp_of_qOp hw (fun a' w' hw' h' => ih _ a' w' hw' h') (h.2 i hi).2⟩
theorem headQ_take {m n i : Nat} {oi : Oper} {v : Value} {L : Array Bool -> Act -> Prop} (hi : ops[i]? = some oi) (hsel : ∀ (j : Nat) (o : Oper) cs b, ops[j]? = some o -> o.op ≠ .select cs b)
  (hs : sinksB ops m n = true) (hc : Region.chainB .any ops n = true) (hn : n < ops.size) (hmi : m <= i) (hin : i < n)
  (hdone : ∀ listed a, L listed a -> ∀ j ∈ Region.ready .any ops listed, n <= j) :
  ∀ (f : Nat) (listed : Array Bool) (a : Act), HeadInv .any ops n listed ->
   (∀ j oj, ops[j]? = some oj -> j ≠ i -> listed.getD j true = false -> (∀ e ∈ oj.after, Region.binds .any e = true -> e.on ≠ i) -> oi.apart ops oj = true) ->
   i ∈ Region.ready .any ops listed -> YieldsIn P ops C oi v a ->
   headQ P ops C n L f (listed.setIfInBounds i true) (a.put oi.dst v) -> headQ P ops C n L (f + 1) listed a := by
 intro f
 induction f with
 | zero =>
  intro listed a inv _ hr hy H
  refine ⟨fun h => (by rw [h] at hr; cases hr), fun j hj => ?_⟩
  have hjn : j < n := Nat.lt_of_not_le fun h => no_tail hs hc inv hn _ i rfl hmi hin (mem_ready.1 hr).1 j h hj
  refine ⟨hjn, ?_⟩
  by_cases hji : j = i
  ·subst hji; exact hy.qOp hi H
  ·have := hdone _ _ H j (ready_mono hj hji)
   omega
 | succ f ih =>
  intro listed a inv hfree hr hy H
  have hun := (mem_ready.1 hr).1
  refine ⟨fun h => (by rw [h] at hr; cases hr), fun j hj => ?_⟩
  have hjn : j < n := Nat.lt_of_not_le fun h => no_tail hs hc inv hn _ i rfl hmi hin hun j h hj
  refine ⟨hjn, ?_⟩
  by_cases hji : j = i
  ·subst hji; exact hy.qOp hi H
  ·obtain ⟨hju, oj, hoj, hall⟩ := mem_ready.1 hj
   have hno : ∀ e ∈ oj.after, Region.binds .any e = true -> e.on ≠ i := fun e he hb hon => by
    have h2 := hall e he hb
    rw [hon, getD_both hun] at h2
    cases h2
   have h1 := qOp_put hoj (hfree j oj hoj hji hju hno) (fun cs b => hsel i oi cs b hi) (fun cs b => hsel j oj cs b hoj) hy (H.2 j (ready_mono hj hji)).2
   refine qOp_mono (fun a' h3 => ?_) h1
   refine ih (listed.setIfInBounds j true) a' (inv.set hj hjn) (fun k ok hk hki hku hkn => hfree k ok hk hki ?_ hkn) (ready_mono hr (Ne.symm hji)) h3.1 ?_
   ·by_cases hjk : j = k
    ·subst hjk; exact hju
    ·rw [getD_set_ne true hjk] at hku; exact hku
   ·rw [Array.setIfInBounds_comm _ _ hji]; exact h3.2
theorem headQ_lex {m n g : Nat} {Lq : Act -> Prop} (hsel : Region.noSelect ops = true) (hs : sinksB ops m n = true) (hc : Region.chainB .any ops n = true) (hn : n < ops.size) :
  ∀ (l : List Oper) (k : Nat) (listed : Array Bool) (a : Act), m <= k -> (∀ j, j < l.length -> l[j]? = ops[k + j]?) -> k + l.length = n -> HeadInv .any ops n listed ->
  Region.lexHead .any ops g l.length k listed = true -> wpQuiet P ops C Lq l a ->
  headQ P ops C n (fun listed' a' => Region.seqB .any ops g n listed' = true /\ Lq a') l.length listed a := by
 intro l
 induction l with
 | nil =>
  intro k listed a _ _ hk _ hB h
  simp only [List.length_nil, Nat.add_zero] at hk
  subst hk
  exact ⟨hB, h⟩
 | cons o l ih =>
  intro k listed a hmk hl hk inv hB h
  have h0 : ops[k]? = some o := by have := hl 0 (by simp); simpa using this.symm
  simp only [List.length_cons, Region.lexHead, Bool.and_eq_true] at hB
  obtain ⟨⟨hr, hf⟩, hB'⟩ := hB
  have hkn : k < n := by rw [<- hk]; simp
  have hrk : k ∈ Region.ready .any ops listed := by simpa using hr
  obtain ⟨v, hy, hK⟩ := yieldsIn_of_qOp (P := P) (C := C) (K := wpQuiet P ops C Lq l) h0 (by unfold qOp; simp only [h0]; exact h)
  refine headQ_take h0 (Region.noSelect_spec hsel) hs hc hn hmk hkn (fun listed' a' hL => seqB_ready hL.1) l.length listed a inv (Region.free_spec h0 hf) hrk hy ?_
  exact ih (k + 1) _ _ (by omega) (fun j hj => by have := hl (j + 1) (by simp; omega); simpa [Nat.add_assoc, Nat.add_comm 1 j] using this) (by simp only [List.length_cons] at hk; omega) (inv.set hrk hkn) hB' hK
def quietTailB (ops : Array Oper) (m n : Nat) : Bool :=
 Region.noSelect ops && decide (m <= n) && decide (n < ops.size) && sinksB ops m n && Region.chainB .any ops n
theorem head_inv0 (n : Nat) : HeadInv .any ops n (Array.replicate ops.size false) :=
 ⟨by simp, fun j oj _ hl => (by rw [getD_replicate_false] at hl; cases hl), fun t _ ht => getD_in (by simpa using ht) (getD_replicate_false _ _)⟩
theorem wpAny_quiet_tail {m n : Nat} {Q : Exit -> Act -> World -> Prop} {a : Act} {w : World} {l : List Oper} {listed : Array Bool} (hB : quietTailB l.toArray m n = true)
  (inv : HeadInv .any l.toArray n listed) (hlex : Region.lexHead .any l.toArray (l.length - n) (n - m) m listed = true) (hC : C w)
  (h : wpQuiet P l.toArray C (fun a' => ∀ w', C w' -> wpList P l.toArray Q (l.drop n) a' w') ((l.take n).drop m) a) : wpAny P .any l.toArray Q (l.length - m) listed a w := by
 simp only [quietTailB, Bool.and_eq_true, decide_eq_true_eq] at hB
 obtain ⟨⟨⟨⟨hsel, hmn⟩, hn⟩, hs⟩, hc⟩ := hB
 have hn' : n < l.length := by simpa using hn
 have htl : ((l.take n).drop m).length = n - m := by simp; omega
 have hdl : (l.drop n).length = l.length - n := by simp
 have H := headQ_lex (g := l.length - n) hsel hs hc hn ((l.take n).drop m) m listed a (Nat.le_refl _) (fun j hj => by
  have hj' : m + j < n := by rw [htl] at hj; omega
  simp [hj']) (by rw [htl]; omega) inv (by rw [htl]; exact hlex) h
 have H2 := wpAny_of_headQ (Q := Q) (g := l.length - n) (fun listed' a' w' hw' hL => by
  have := wpAny_of_seq (md := .any) (Q' := Q) (l.drop n) n listed' a' w' (fun j => by simp [List.getElem?_drop]) (by rw [hdl]; exact hL.1) (hL.2 w' hw')
  rwa [hdl] at this) _ _ _ _ hC H
 rw [htl, show l.length - n + (n - m) = l.length - m by omega] at H2
 exact H2
theorem wp_quiet_tail {id : Nat} {Q : Exit -> Act -> World -> Prop} {a : Act} {w : World} {l : List Oper} (n : Nat) (hm : P.follows .mixedOrders = true) (hB : quietTailB l.toArray 0 n = true)
  (hlex : Region.lexHead .any l.toArray (l.length - n) n 0 (Array.replicate l.toArray.size false) = true)
  (h : wpQuiet P l.toArray (fun w' => ∃ p : Regrown, w' = Sort.grow (redrawn w p.d) p.os) (fun a' => ∀ w', (∃ p : Regrown, w' = Sort.grow (redrawn w p.d) p.os) -> wpList P l.toArray Q (l.drop n) a' w') (l.take n) a) : (Code.region id l.toArray true).wp P Q a w := by
 refine wp_region_any hm ?_
 have := wpAny_quiet_tail (Q := Q) hB (head_inv0 n) (by simpa using hlex) (C := fun w' => ∃ p : Regrown, w' = Sort.grow (redrawn w p.d) p.os) (w := { w with drawn := w.drawn + 1 }) ⟨⟨w.drawn + 1, #[]⟩, by rw [Sort.grow_empty]; rfl⟩ h
 simpa using this
theorem wp_quiet_tail1 {id : Nat} {Q : Exit -> Act -> World -> Prop} {a : Act} {w : World} {o : Oper} {l : List Oper} (n : Nat) (hm : P.follows .mixedOrders = true) (hB : quietTailB (o :: l).toArray 1 n = true)
  (hf : Region.free .any (o :: l).toArray (Array.replicate (o :: l).toArray.size false) 0 = true)
  (hr : (Region.ready .any (o :: l).toArray (Array.replicate (o :: l).toArray.size false)).contains 0 = true)
  (hlex : Region.lexHead .any (o :: l).toArray ((o :: l).length - n) (n - 1) 1 ((Array.replicate (o :: l).toArray.size false).setIfInBounds 0 true) = true)
  (v : Value) (hy : Yields P (o :: l).toArray o v a) (hQ : ∀ c a w, Q (.panic c) (a.put o.dst v) w -> Q (.panic c) a w)
  (h : wpQuiet P (o :: l).toArray (fun w' => ∃ p : Regrown, w' = Sort.grow (redrawn w p.d) p.os) (fun a' => ∀ w', (∃ p : Regrown, w' = Sort.grow (redrawn w p.d) p.os) -> wpList P (o :: l).toArray Q ((o :: l).drop n) a' w') (((o :: l).take n).drop 1) (a.put o.dst v)) : (Code.region id (o :: l).toArray true).wp P Q a w := by
 refine wp_region_any hm ?_
 have hB' := hB
 simp only [quietTailB, Bool.and_eq_true, decide_eq_true_eq] at hB'
 have hn : 0 < n := hB'.1.1.1.2
 have hz : 0 ∈ Region.ready .any (o :: l).toArray (Array.replicate (o :: l).toArray.size false) := by simpa using hr
 have H := wpAny_quiet_tail (Q := Q) hB ((head_inv0 n).set hz hn) hlex (C := fun w' => ∃ p : Regrown, w' = Sort.grow (redrawn w p.d) p.os) (w := { w with drawn := w.drawn + 1 }) ⟨⟨w.drawn + 1, #[]⟩, by rw [Sort.grow_empty]; rfl⟩ h
 exact wpAny_take (i := 0) (oi := o) (by simp) hB'.1.1.1.1 hf hr hQ hy H
theorem wpQuiet_load_list {ops : Array Oper} {C : World -> Prop} {Q : Act -> Prop} {rest : List Oper} {o : Oper} {a : Act} (hgd : o.guard = none) (ty : TypeId) (p : Operand) (ho : o.op = .load ty p)
  (ad : Addr) (hp : a.eval p = .pointer (some ad)) (l : List Value) (hc : ∀ w', C w' -> ∀ j v, l[j]? = some v -> w'.cell? (ad.add j) = some v) (d : TypeDesc)
  (hu : P.underlying ty = some d) (hd : (match d with | .struct _ | .array _ _ => true | _ => false) = true) (hi : (P.info? ty).map (·.size) = some l.length)
  (h : wpQuiet P ops C Q rest (a.put o.dst (.agg l.toArray))) : wpQuiet P ops C Q (o :: rest) a := by
 unfold wpQuiet
 have hw : Region.wanted o (yielded ops a.tmps) = true := by simp [Region.wanted, hgd]
 rw [if_pos hw]
 refine ⟨.agg l.toArray, fun w hC => ?_, h⟩
 have hl : (loadCells ad l.length).run P w = .ok l.toArray w := run_loadCells_list (P := P) w ad l (hc w hC)
 unfold Oper.quietAt execOp
 cases hq : P.info? ty with
 | none => simp [hq] at hi
 | some i =>
  have hsz : i.size = l.length := by simpa [hq] using hi
  have hagg : (isAgg ty).run P w = .ok true w := by
   unfold isAgg
   rw [Sem.run_bind, run_underlying hu w]
   cases d <;> simp_all
  have hrun : (loadVar ty ad).run P w = .ok (.agg l.toArray) w := by
   simp [loadVar, Sem.run_bind, hagg, sizeOf, typeInfo, hq, hsz, hl]
  simp only [ho, hp, Instr.loadAt, Instr.sureAddr, Sem.run_bind, Sem.run_pure, Result.andThen_ok, hrun]
  exact ⟨rfl, rfl⟩
end
section
variable {P : Program} {w0 : World}
theorem regrown_cells {g : Nat} {t : TypeId} {cs : Array Value} (h : Blk w0 g t cs) (o : Nat) (l : List Value) (hl : ∀ j v, l[j]? = some v -> cs[o + j]? = some v) : ∀ w' : World, (∃ p : Regrown, w' = Sort.grow (redrawn w0 p.d) p.os) -> ∀ j v, l[j]? = some v -> w'.cell? (Addr.add ⟨g, o, none⟩ j) = some v := by
 rintro w' ⟨p, rfl⟩ j v hj
 rw [add_flat, ((h.below (below_regrown w0 p.d p.os) h.lt).cell (o + j))]
 exact hl j v hj
abbrev QC (P : Program) (w0 : World) (f : FuncId) (args : Array Value) (v : Value) : Prop := ∀ (d : Nat) (os : Array Obj), Calls P f args (Sort.grow (redrawn w0 d) os) fun e w'' => e = .returned v /\ ∃ p : Regrown, w'' = Sort.grow (redrawn w0 p.d) p.os
theorem same_regrown {f : FuncId} {args : Array Value} {v : Value} (h : ∀ W, Below w0.heap.size w0 W -> Calls P f args W fun e w' => e = .returned v /\ w' = W) : QC P w0 f args v := fun d os =>
 (h _ (below_regrown w0 d os)).mono fun e w'' x => ⟨x.1, ⟨⟨d, os⟩, x.2⟩⟩
theorem below_qc {f : FuncId} {args : Array Value} {v : Value} (h : ∀ W, Below w0.heap.size w0 W -> Calls P f args W fun e w' => e = .returned v /\ Below W.heap.size W w') : QC P w0 f args v := fun d os =>
 Calls.regrown_of (h _ (below_regrown w0 d os))
end
end Go.Proofs.YtendlmdmbkcdnaaGreatDoor.oc
namespace Go.Proofs.YtendlmdmbkcdnaaGreatDoor.kd
open Go.RowKit oc
open Go.Lib (hid)
set_option maxRecDepth 100000
structure KE where
 seg : Int
 pos : Int
 size : Int
 off : Int
 time : Int
 tomb : Bool
def KE.cells (e : KE) : Array Value := #[.int .i64 e.seg, .int .i64 e.pos, .int .i64 e.size, .int .i64 e.off, .int .i64 e.time, .bool e.tomb]
def KE.zero : KE := ⟨0, 0, 0, 0, 0, false⟩
inductive KT where
 | nil
 | node (k : ByteArray) (e : KE) (l r : KT)
def KT.count : KT -> Nat
 | .nil => 0
 | .node _ _ l r => l.count + r.count + 1
def KT.short : KT -> Prop
 | .nil => True
 | .node k _ l r => k.size <= 64 /\ l.short /\ r.short
def pa : Option Nat -> Option Addr
 | none => none
 | some g => some ⟨g, 0, none⟩
def pv (p : Option Nat) : Value := .pointer (pa p)
def nodeC (k : ByteArray) (e : KE) (n : Nat) (pl pr : Option Nat) : Array Value := #[.string k, .int .i64 e.seg, .int .i64 e.pos, .int .i64 e.size, .int .i64 e.off, .int .i64 e.time, .bool e.tomb, .int .i64 (n : Int), pv pl, pv pr]
def TreeAt (w : World) (F : Nat -> Prop) : KT -> Option Nat -> Prop
 | .nil, p => p = none
 | .node k e l r, p => ∃ g pl pr, p = some g /\ F g /\ Blk w g 202 (nodeC k e (l.count + r.count + 1) pl pr) /\ TreeAt w F l pl /\ TreeAt w F r pr
theorem TreeAt.keep {w w' : World} {F F' : Nat -> Prop} (hk : ∀ i, i < w.heap.size -> F i -> F' i /\ w'.heap[i]? = w.heap[i]?) : ∀ {t : KT} {p : Option Nat}, TreeAt w F t p -> TreeAt w' F' t p
 | .nil, _, h => h
 | .node _ _ _ _, _, ⟨g, pl, pr, e, hF, hB, hl, hr⟩ => ⟨g, pl, pr, e, (hk g hB.lt hF).1, (hk g hB.lt hF).2.trans hB, TreeAt.keep hk hl, TreeAt.keep hk hr⟩
theorem TreeAt.below {w w' : World} {F : Nat -> Prop} {t : KT} {p : Option Nat} (h : TreeAt w F t p) (hb : Below w.heap.size w w') : TreeAt w' F t p :=
 h.keep fun i hi hF => ⟨hF, hb.block i hi⟩
def Stp (p : Prop) : Prop := p
theorem count_any (w : World) (F : Nat -> Prop) (t : KT) (p : Option Nat) (h : TreeAt w F t p) : Calls Tryz.prog 273 #[pv p] w fun e w' => e = .returned (.int .i64 (t.count : Int)) /\ w' = w := by
 cases t with
 | nil =>
  obtain rfl : p = none := h
  simp only [pv, pa]
  go_enter Tryz.func273, Tryz.ntmps273
  go_wp2_with fail
  go_ret
  exact ⟨rfl, rfl⟩
 | node k e l r =>
  obtain ⟨g, pl, pr, rfl, hF, hB, hl, hr⟩ := h
  have c7 : w.cell? ⟨g, 7, none⟩ = some (.int .i64 ((l.count + r.count + 1 : Nat) : Int)) := (hB.cell 7).trans rfl
  clear hB hl hr hF
  simp only [pv, pa]
  go_enter Tryz.func273, Tryz.ntmps273
  go_wp2_with fail
  go_ret
  exact ⟨rfl, rfl⟩
theorem heavy_any (w : World) (F : Nat -> Prop) (a b : KT) (pa pb : Option Nat) (ha : TreeAt w F a pa) (hb : TreeAt w F b pb) (na : a.count <= 1099511627776) (nb : b.count <= 1099511627776) :
  Calls Tryz.prog 274 #[pv pa, pv pb] w fun e w' => e = .returned (.bool (decide (3 * ((b.count : Int) + 1) < (a.count : Int) + 1))) /\ w' = w := by
 have n1 := count_any w F a pa ha
 have n2 := count_any w F b pb hb
 have e1 : IntKind.i64.wrap ((a.count : Int) + 1) = (a.count : Int) + 1 := by rw [IntKind.wrap_i64]; omega
 have e2 : IntKind.i64.wrap ((b.count : Int) + 1) = (b.count : Int) + 1 := by rw [IntKind.wrap_i64]; omega
 have e3 : IntKind.i64.wrap (3 * ((b.count : Int) + 1)) = 3 * ((b.count : Int) + 1) := by rw [IntKind.wrap_i64]; omega
 generalize (a.count : Int) = x at *
 generalize (b.count : Int) = y at *
 clear ha hb na nb
 generalize hvl : pv pa = vl at n1 ⊢
 generalize hvr : pv pb = vr at n2 ⊢
 go_enter Tryz.func274, Tryz.ntmps274
 go_wp2_with (first
  | (go_at_call 273; (first | with_reducible refine n1.mono ?_ | with_reducible refine n2.mono ?_); rintro e w1 ⟨rfl, rfl⟩)
  | fail)
 all_goals
  go_ret
  simp_all
theorem inner_any (w : World) (F : Nat -> Prop) (a b : KT) (pa pb : Option Nat) (ha : TreeAt w F a pa) (hb : TreeAt w F b pb) (na : a.count <= 1099511627776) (nb : b.count <= 1099511627776) :
  Calls Tryz.prog 275 #[pv pa, pv pb] w fun e w' => e = .returned (.bool (decide (2 * ((b.count : Int) + 1) <= (a.count : Int) + 1))) /\ w' = w := by
 have n1 := count_any w F a pa ha
 have n2 := count_any w F b pb hb
 have e1 : IntKind.i64.wrap ((a.count : Int) + 1) = (a.count : Int) + 1 := by rw [IntKind.wrap_i64]; omega
 have e2 : IntKind.i64.wrap ((b.count : Int) + 1) = (b.count : Int) + 1 := by rw [IntKind.wrap_i64]; omega
 have e3 : IntKind.i64.wrap (2 * ((b.count : Int) + 1)) = 2 * ((b.count : Int) + 1) := by rw [IntKind.wrap_i64]; omega
 generalize (a.count : Int) = x at *
 generalize (b.count : Int) = y at *
 clear ha hb na nb
 generalize hvl : pv pa = vl at n1 ⊢
 generalize hvr : pv pb = vr at n2 ⊢
 go_enter Tryz.func275, Tryz.ntmps275
 go_wp2_with (first
  | (go_at_call 273; (first | with_reducible refine n1.mono ?_ | with_reducible refine n2.mono ?_); rintro e w1 ⟨rfl, rfl⟩)
  | fail)
 all_goals
  go_ret
  simp_all
set_option maxHeartbeats 2000000 in
theorem join_any (w : World) (F : Nat -> Prop) (hF : ∀ i, w.heap.size <= i -> F i) (k : ByteArray) (e : KE) (l r : KT) (pl pr : Option Nat) (hl : TreeAt w F l pl) (hr : TreeAt w F r pr) (hn : l.count + r.count + 1 <= 1099511627776) :
  Calls Tryz.prog 231 #[.string k, .agg e.cells, pv pl, pv pr] w fun x w' => ∃ g, x = .returned (pv (some g)) /\ TreeAt w' F (.node k e l r) (some g) /\ Below w.heap.size w w' := by
 obtain ⟨ce, hce⟩ : ∃ c, KE.cells e = c := ⟨_, rfl⟩
 have e1 : IntKind.i64.wrap ((l.count : Int) + r.count) = (l.count : Int) + r.count := by rw [IntKind.wrap_i64]; omega
 have e2 : IntKind.i64.wrap ((l.count : Int) + r.count + 1) = (l.count : Int) + r.count + 1 := by rw [IntKind.wrap_i64]; omega
 have HL := hid hl
 have HR := hid hr
 have HF := hid hF
 clear hl hr hF hn
 obtain ⟨a1, a2, a3, a4, a5, a6⟩ := e
 simp only [KE.cells] at hce ⊢
 subst hce
 obtain ⟨vl, hvl⟩ : ∃ x, pa pl = x := ⟨_, rfl⟩
 obtain ⟨vr, hvr⟩ : ∃ x, pa pr = x := ⟨_, rfl⟩
 have hl2 : pv pl = .pointer vl := by rw [pv, hvl]
 have hr2 : pv pr = .pointer vr := by rw [pv, hvr]
 rw [hl2, hr2]
 go_enter Tryz.func231, Tryz.ntmps231
 go_wp2_with fail
 obtain ⟨w0, hw0⟩ : ∃ x, w.alloc (.cells #[.int .i64 a1, .int .i64 a2, .int .i64 a3, .int .i64 a4, .int .i64 a5, .bool a6] 117) = x := ⟨_, rfl⟩
 have HB0 : Hid (Below w.heap.size w w0) := by rw [<- hw0]; exact hid ((Below.refl _ _).alloc (Nat.le_refl _) _)
 have HK0 : Hid (Blk w0 w.heap.size 117 #[.int .i64 a1, .int .i64 a2, .int .i64 a3, .int .i64 a4, .int .i64 a5, .bool a6]) := by rw [<- hw0]; exact hid (Blk.new w _ _)
 have q1 : QC Tryz.prog w0 273 #[.pointer vl] (.int .i64 (l.count : Int)) := same_regrown (fun W hb => hl2 ▸ count_any W F l pl (HL.out.below (HB0.out.trans (hb.mono HB0.out.size))))
 have q2 : QC Tryz.prog w0 273 #[.pointer vr] (.int .i64 (r.count : Int)) := same_regrown (fun W hb => hr2 ▸ count_any W F r pr (HR.out.below (HB0.out.trans (hb.mono HB0.out.size))))
 have kE := regrown_cells HK0.out 0 [.int .i64 a1, .int .i64 a2, .int .i64 a3, .int .i64 a4, .int .i64 a5, .bool a6] (fun j v h => by simpa using h)
 simp only [hw0]
 refine wp_quiet_tail 10 (by kernel_rfl) (by kernel_rfl) (by kernel_rfl) ?_
 simp only [List.take, List.drop]
 repeat (first | go_big_quiet_skip | (with_reducible refine wpQuiet_load_list (o := ⟨some 10, .load 117 (.tmp 5), _, _, _, _⟩) rfl 117 (.tmp 5) rfl ⟨w.heap.size, 0, none⟩ rfl [.int .i64 a1, .int .i64 a2, .int .i64 a3, .int .i64 a4, .int .i64 a5, .bool a6] kE _ Tryz.underlying117 rfl (by kernel_rfl) ?_; simp only [Act.put, List.setIfInBounds_toArray, List.set_cons_succ, List.set_cons_zero]) | (go_big_quiet_want; go_big_quiet_op; first | go_big_quiet_on | (apply Exists.intro; refine ⟨fun _ => ?_, ?_⟩; · (first | with_reducible exact q1 _ _ | with_reducible exact q2 _ _)); go_big_quiet_on))
 refine wpQuiet_nil ?_
 intro wq hw'
 obtain ⟨⟨dq, osq⟩, hw''⟩ := hw'
 have hbq : Below w0.heap.size w0 wq := by rw [hw'']; exact below_regrown w0 dq osq
 have HBq : Hid (Below w.heap.size w wq) := HB0.out.trans (hbq.mono HB0.out.size)
 clear hw'' hbq q1 q2 kE HK0 hw0
 go_wp2_with fail
 go_ret
 refine ⟨wq.heap.size, rfl, ⟨wq.heap.size, pl, pr, rfl, HF.out _ HBq.out.size, ?_, (HL.out.below HBq.out).below ((Below.refl _ _).alloc (Nat.le_refl _) _), (HR.out.below HBq.out).below ((Below.refl _ _).alloc (Nat.le_refl _) _)⟩, HBq.out.alloc HBq.out.size _⟩
 have := Blk.new wq 202 (nodeC k ⟨a1, a2, a3, a4, a5, a6⟩ (l.count + r.count + 1) pl pr)
 simpa [nodeC, hl2, hr2] using this
end Go.Proofs.YtendlmdmbkcdnaaGreatDoor.kd
