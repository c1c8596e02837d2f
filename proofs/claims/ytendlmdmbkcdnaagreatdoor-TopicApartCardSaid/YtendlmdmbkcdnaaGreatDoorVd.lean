/-
  Texts of the proof joined by a program: Oda Sqa Sqb Sqc Sqd Sqe Sqf Sqg.
-/
import Derived.Test.YtendlmdmbkcdnaaGreatDoorVc
import Derived.Test.YtendlmdmbkcdnaaGreatDoorVa
import Derived.Test.YtendlmdmbkcdnaaGreatDoorProg
import Derived.BigQuiet
import Derived.Deep.QuietTactic
import Derived.Deep.RegionWith
import Derived.WalkMore
import Derived.Laws.CopyOwn
set_option linter.unusedSimpArgs false
set_option linter.unusedVariables false
namespace Go.Proofs.YtendlmdmbkcdnaaGreatDoor.oc
open Go.RowKit Go.Maps Go.WideMaps
open Go.Lib (hid)
set_option maxRecDepth 100000
set_option maxHeartbeats 4000000 in
theorem remove_yes (w : World) (ow : Nat -> Tag) (d g : Nat) (S : DiskS) (h : DiskAt w ow d S) (hd : S.dead = false) (hfu : S.fuse = -1) (hop : 0 <= S.ops) (hop2 : S.ops <= 1099511627776) (a : ByteArray) (ha : GoodN a) (he : EntF S.dir a g) (G : FileS) (hG : S.file g = some G) (hu0 : G.seen.length <= S.used) (hu1 : S.used <= 1073741824) (hl : S.lim + 1 <= 1073741824) :
  Calls Tryz.prog 79 #[.pointer (some ⟨d, 0, none⟩), .string a] w (DOut w ow d { S with dir := doD S.dir (.rem a), dchs := S.dchs ++ [.rem a], lim := S.lim + 1, used := S.used - G.seen.length, ops := S.ops + 1 } (.int .i64 0)) := by
 have HAT := hid (at_yes w ow d g S h hd a ha he)
 obtain ⟨ms, mf, vc, dvals, hV⟩ := h
 have HV := hid hV
 have HFU : Hid (S.fuse = -1) := hfu
 have HNW := hid hV.new
 have has : a.size <= 1000 := Nat.le_trans ha.2.1 (by decide)
 clear hV hd hfu ha he
 go_enter Tryz.func79, Tryz.ntmps79
 go_wp2_with fail
 refine HAT.out.mono ?_
 rintro e w3 ⟨rfl, hb3⟩
 have HB3 : Hid (Below w.heap.size w w3) := hb3
 have HV1 := hid (HV.out.below HB3.out)
 have c5 : w3.cell? ⟨d, 5, none⟩ = some (.int .i64 (-1)) := (HV1.out.1.cell 5).trans (by simp [HFU.out])
 have c7 : w3.cell? ⟨d, 7, none⟩ = some (.int .i64 S.ops) := (HV1.out.1.cell 7).trans rfl
 have f7 := HV1.out.1.frozen 7
 clear hb3 HAT HV
 have hset := disk_set (i := 7) (v := .int .i64 (S.ops + 1)) (S' := { S with ops := S.ops + 1 }) HV1.out rfl rfl rfl rfl rfl rfl
 have HSET := hid hset.1
 have HFS : Hid (Fr CD ow ow w (w3.setCell ⟨d, 7, none⟩ (.int .i64 (S.ops + 1)))) := hid ((Fr.of_below HB3.out HNW.out).trans (hset.2.mono cd_disk))
 obtain ⟨vs, vf, vc2, vals, hGB, hGt, ⟨hGs, _⟩, _⟩ := HSET.out.2.2.2.2.2.2.1 g G hG
 obtain ⟨As, cs, rfl⟩ := own_slice hGs
 have HGB := hid hGB
 clear hGB hGt hGs hset
 go_wp2_with (first | (go_at_call 137; go_in) | fail)
 clear c5 c7 f7 HV1
 have hw4 : ∃ W, W = w3.setCell ⟨d, 7, none⟩ (.int .i64 (S.ops + 1)) := ⟨_, rfl⟩
 obtain ⟨w4, hw4⟩ := hw4
 rw [<- hw4] at HSET HFS HGB ⊢
 clear hw4
 have c4 : w4.cell? ⟨d, 4, none⟩ = some (.int .i64 S.used) := (HSET.out.1.cell 4).trans rfl
 have f4 := HSET.out.1.frozen 4
 have g0 : w4.cell? ⟨g, 0, none⟩ = some (.slice As G.seen.length cs) := (HGB.out.cell 0).trans rfl
 have hwr : IntKind.i64.wrap (S.used - (G.seen.length : Int)) = S.used - G.seen.length := IntWalk.i64_in _ (by omega)
 clear HB3 HNW
 go_region_with (fail)
 all_goals
  have hset2 := disk_set (i := 4) (v := .int .i64 (S.used - G.seen.length)) (S' := { S with used := S.used - G.seen.length, ops := S.ops + 1 }) (HSET.out.below (Below.drew (Below.refl _ _))) rfl rfl rfl rfl rfl rfl
  have HS2 := hid hset2.1
  have HF2 : Hid (Fr CD ow ow w (w4.drew.setCell ⟨d, 4, none⟩ (.int .i64 (S.used - G.seen.length)))) := hid (HFS.out.trans ((Fr.of_below (Below.drew (Below.refl _ _)) HSET.out.new).trans (hset2.2.mono cd_disk)))
  clear hset2 c4 f4 g0 hwr HSET HFS HGB
  go_wp2_with fail
  refine (dadd_rem _ ow d { S with used := S.used - G.seen.length, ops := S.ops + 1 } a has ⟨ms, mf, vc, dvals, by exact HS2.out⟩ hl).mono ?_
  rintro e w6 ⟨ow6, rfl, hD6, hF6⟩
  have HD6 := hid hD6
  have HF6 : Hid (Fr CD ow ow6 w w6) := hid (Fr.trans (by exact HF2.out) (hF6.mono cd_dir))
  clear hD6 hF6 HF2 HS2
  go_wp2_with fail
  go_ret
  exact ⟨ow6, rfl, HD6.out, HF6.out⟩
theorem quota_any (w : World) (ow : Nat -> Tag) (d : Nat) (S : DiskS) (h : DiskAt w ow d S) : Calls Tryz.prog 11 #[.pointer (some ⟨d, 0, none⟩)] w fun e w' => e = .returned (.int .i64 S.quota) /\ w' = w := by
 obtain ⟨ms, mf, vc, dvals, hV⟩ := h
 have c3 : w.cell? ⟨d, 3, none⟩ = some (.int .i64 S.quota) := (hV.1.cell 3).trans rfl
 clear hV
 go_enter Tryz.func11, Tryz.ntmps11
 go_wp2_with fail
 go_ret
 exact ⟨rfl, rfl⟩
theorem used_any (w : World) (ow : Nat -> Tag) (d : Nat) (S : DiskS) (h : DiskAt w ow d S) : Calls Tryz.prog 12 #[.pointer (some ⟨d, 0, none⟩)] w fun e w' => e = .returned (.int .i64 S.used) /\ w' = w := by
 obtain ⟨ms, mf, vc, dvals, hV⟩ := h
 have c4 : w.cell? ⟨d, 4, none⟩ = some (.int .i64 S.used) := (hV.1.cell 4).trans rfl
 clear hV
 go_enter Tryz.func12, Tryz.ntmps12
 go_wp2_with fail
 go_ret
 exact ⟨rfl, rfl⟩
theorem dead_any (w : World) (ow : Nat -> Tag) (d : Nat) (S : DiskS) (h : DiskAt w ow d S) : Calls Tryz.prog 58 #[.pointer (some ⟨d, 0, none⟩)] w fun e w' => e = .returned (.bool S.dead) /\ w' = w := by
 obtain ⟨ms, mf, vc, dvals, hV⟩ := h
 have c6 : w.cell? ⟨d, 6, none⟩ = some (.bool S.dead) := (hV.1.cell 6).trans rfl
 clear hV
 go_enter Tryz.func58, Tryz.ntmps58
 go_wp2_with fail
 go_ret
 exact ⟨rfl, rfl⟩
def be8 (v : Nat) : List UInt8 := be4 (v / 4294967296) ++ be4 (v % 4294967296)
theorem u64_any (B g : Nat) (l : List UInt8) (v : Nat) (hv : v < 18446744073709551616) (hn : l.length + 8 <= 1099511627776) (w : World) (h : Wr w B g l) : Calls Tryz.prog 136 #[.pointer (some ⟨g, 0, none⟩), .int .u64 (v : Int)] w fun e w' => e = .returned (.tuple #[]) /\ Wr w' B g (l ++ be8 v) /\ Below B w w' := by
 have HW := hid h
 have e1 : IntKind.u32.wrap ((v : Int) / 4294967296) = ((v / 4294967296 : Nat) : Int) := by rw [IntKind.wrap_u32]; omega
 have e2 : IntKind.u32.wrap (v : Int) = ((v % 4294967296 : Nat) : Int) := by rw [IntKind.wrap_u32]; omega
 have h1 : v / 4294967296 < 4294967296 := by omega
 have h2 : v % 4294967296 < 4294967296 := by omega
 have HN := hid hn
 clear h hv hn
 go_enter Tryz.func136, Tryz.ntmps136
 go_wp2_with fail
 refine (u32_any B g l (v / 4294967296) h1 (by have := HN.out; omega) w HW.out).mono ?_
 rintro e w1 ⟨rfl, hw1, hb1⟩
 have H1 := hid hw1
 have HB1 := hid hb1
 clear hw1 hb1
 go_wp2_with fail
 refine (u32_any B g (l ++ be4 (v / 4294967296)) (v % 4294967296) h2 (by have := HN.out; rw [List.length_append]; simp only [be4, List.length_cons, List.length_nil]; omega) w1 H1.out).mono ?_
 rintro e w2 ⟨rfl, hw2, hb2⟩
 have H2 := hid hw2
 have HB2 := hid hb2
 clear hw2 hb2
 go_wp2_with fail
 go_end0
 exact ⟨rfl, by rw [be8, <- List.append_assoc]; exact H2.out, HB1.out.trans HB2.out⟩
end Go.Proofs.YtendlmdmbkcdnaaGreatDoor.oc
namespace Go.Proofs.YtendlmdmbkcdnaaGreatDoor.sq
def numL (l : List UInt8) : Nat := l.foldl (fun n c => (n * 31 + c.toNat) % 4294967296) 0
def slot (T : List UInt8) (p : Nat) : Nat := numL ((T.drop p).take 5) % 1024
structure Fi where
 last : Nat -> Nat
 ahead : Nat -> Nat
def upd (f : Nat -> Nat) (k v : Nat) : Nat -> Nat := fun j => if j = k then v else f j
def passN (T : List UInt8) (F : Fi) (p : Nat) : Fi := if p + 5 <= T.length then ⟨upd F.last (slot T p) (p + 1), upd F.ahead p (F.last (slot T p))⟩ else F
def same (T : List UInt8) (q p : Nat) : Nat -> Nat -> Nat
 | 0, n => n
 | k + 1, n => if n < 258 /\ p + n < T.length /\ T[q + n]? = T[p + n]? then same T q p k (n + 1) else n
def alikeN (T : List UInt8) (q p : Nat) : Nat := same T q p 258 0
def lookN (T : List UInt8) (F : Fi) (p : Nat) : Nat -> Nat -> Nat × Nat -> Nat × Nat
 | 0, _, b => b
 | k + 1, fr, b =>
  if fr = 0 then b else
  if 2048 < p - (fr - 1) then b else
  let n := alikeN T (fr - 1) p
  if n < 5 \/ n <= b.2 then lookN T F p k (F.ahead (fr - 1)) b else
  if n = 258 then (p - (fr - 1), n) else lookN T F p k (F.ahead (fr - 1)) (p - (fr - 1), n)
def matchN (T : List UInt8) (F : Fi) (p : Nat) : Nat × Nat :=
 if p + 5 <= T.length then lookN T F p (F.last (slot T p)) (F.last (slot T p)) (0, 0) else (0, 0)
structure Inv (F : Fi) (p : Nat) : Prop where
 last : ∀ h, F.last h <= p
 ahead : ∀ k, F.ahead k <= k
theorem slot_lt (T : List UInt8) (p : Nat) : slot T p < 1024 := Nat.mod_lt _ (by decide)
theorem Inv.pass {T : List UInt8} {F : Fi} {p : Nat} (h : Inv F p) : Inv (passN T F p) (p + 1) := by
 unfold passN
 split
 ·refine ⟨fun k => ?_, fun k => ?_⟩
  ·show upd _ _ _ k <= _
   unfold upd
   split
   ·exact Nat.le_refl _
   ·exact Nat.le_succ_of_le (h.last k)
  ·show upd _ _ _ k <= _
   unfold upd
   split
   ·rename_i e
    rw [e]
    exact h.last _
   ·exact h.ahead k
 ·exact ⟨fun k => Nat.le_succ_of_le (h.last k), h.ahead⟩
theorem same_le (T : List UInt8) (q p : Nat) : ∀ k n, n <= 258 -> p + n <= T.length -> n <= same T q p k n /\ same T q p k n <= 258 /\ p + same T q p k n <= T.length
 | 0, n, h1, h2 => ⟨Nat.le_refl _, h1, h2⟩
 | k + 1, n, h1, h2 => by
  unfold same
  split
  ·rename_i h
   obtain ⟨a, b, c⟩ := same_le T q p k (n + 1) (by omega) (by omega)
   exact ⟨by omega, b, c⟩
  ·exact ⟨Nat.le_refl _, h1, h2⟩
theorem alike_le (T : List UInt8) (q p : Nat) (h : p <= T.length) : alikeN T q p <= 258 /\ p + alikeN T q p <= T.length := (same_le T q p 258 0 (by omega) (by omega)).2
def Good (T : List UInt8) (p : Nat) (b : Nat × Nat) : Prop := b.2 = 0 /\ b.1 = 0 \/ 5 <= b.2 /\ b.2 <= 258 /\ 1 <= b.1 /\ b.1 <= 2048 /\ b.1 <= p /\ p + b.2 <= T.length
theorem look_good (T : List UInt8) (F : Fi) (p : Nat) (hp : p <= T.length) (hI : Inv F p) : ∀ k fr b, fr <= p -> Good T p b -> Good T p (lookN T F p k fr b)
 | 0, _, _, _, h => h
 | k + 1, fr, b, hf, h => by
  unfold lookN
  split
  ·exact h
  ·split
   ·exact h
   ·rename_i h0 h1
    have ha := alike_le T (fr - 1) p hp
    have hah := hI.ahead (fr - 1)
    have hg : ¬ (alikeN T (fr - 1) p < 5 \/ alikeN T (fr - 1) p <= b.2) -> Good T p (p - (fr - 1), alikeN T (fr - 1) p) := fun hn => Or.inr ⟨by show 5 <= alikeN _ _ _; omega, ha.1, by show 1 <= p - (fr - 1); omega, by show p - (fr - 1) <= 2048; omega, by show p - (fr - 1) <= p; omega, ha.2⟩
    show Good T p (if alikeN T (fr - 1) p < 5 \/ alikeN T (fr - 1) p <= b.2 then _ else _)
    split
    ·exact look_good T F p hp hI k _ b (by omega) h
    ·rename_i hn
     split
     ·exact hg hn
     ·exact look_good T F p hp hI k _ _ (by omega) (hg hn)
theorem match_good (T : List UInt8) (F : Fi) (p : Nat) (hp : p <= T.length) (hI : Inv F p) : Good T p (matchN T F p) := by
 unfold matchN
 split
 ·exact look_good T F p hp hI _ _ _ (hI.last _) (Or.inl ⟨rfl, rfl⟩)
 ·exact Or.inl ⟨rfl, rfl⟩
def passes (T : List UInt8) (F : Fi) (p : Nat) : Nat -> Fi
 | 0 => F
 | n + 1 => passN T (passes T F p n) (p + n)
theorem Inv.passes {T : List UInt8} {F : Fi} {p : Nat} (h : Inv F p) : ∀ n, Inv (sq.passes T F p n) (p + n)
 | 0 => h
 | n + 1 => (h.passes n).pass
inductive Tok | lit (l : List UInt8) | mat (d n : Nat)
def toks (T : List UInt8) : Nat -> Fi -> Nat -> Nat -> List Tok
 | 0, _, _, _ => []
 | k + 1, F, begun, p =>
  if p < T.length then
   if (matchN T F p).2 = 0 then toks T k (passN T F p) begun (p + 1)
   else (if begun < p then [.lit ((T.drop begun).take (p - begun))] else []) ++ .mat (matchN T F p).1 (matchN T F p).2 :: toks T k (passes T F p (matchN T F p).2) (p + (matchN T F p).2) (p + (matchN T F p).2)
  else if begun < T.length then [.lit (T.drop begun)] else []
def tokens (T : List UInt8) : List Tok := toks T (T.length + 1) ⟨fun _ => 0, fun _ => 0⟩ 0 0
end Go.Proofs.YtendlmdmbkcdnaaGreatDoor.sq
namespace Go.Proofs.YtendlmdmbkcdnaaGreatDoor.sq
open Go.RowKit oc
open Go.Lib (hid)
set_option maxRecDepth 100000
def FinAt (w : World) (g : Nat) (A : Option Addr) (c : Nat) (T : List UInt8) (F : Fi) : Prop := ∃ cs, Blk w g 401 cs /\ cs.size = 5121 /\ cs[0]? = some (.slice A T.length c) /\ (∀ k, k < 1024 -> cs[1 + k]? = some (.int .i64 (F.last k : Nat))) /\ ∀ k, k < 4096 -> cs[1025 + k]? = some (.int .i64 (F.ahead k : Nat))
theorem FinAt.text {w : World} {g : Nat} {A : Option Addr} {c : Nat} {T : List UInt8} {F : Fi} (h : FinAt w g A c T F) : w.cell? ⟨g, 0, none⟩ = some (.slice A T.length c) := by
 obtain ⟨cs, hB, _, h0, _⟩ := h
 rw [hB.cell, h0]
theorem FinAt.lastC {w : World} {g : Nat} {A : Option Addr} {c : Nat} {T : List UInt8} {F : Fi} (h : FinAt w g A c T F) (k : Nat) (hk : k < 1024) : w.cell? ⟨g, 1 + k, none⟩ = some (.int .i64 (F.last k : Nat)) := by
 obtain ⟨cs, hB, _, _, h1, _⟩ := h
 rw [hB.cell, h1 k hk]
theorem FinAt.aheadC {w : World} {g : Nat} {A : Option Addr} {c : Nat} {T : List UInt8} {F : Fi} (h : FinAt w g A c T F) (k : Nat) (hk : k < 4096) : w.cell? ⟨g, 1025 + k, none⟩ = some (.int .i64 (F.ahead k : Nat)) := by
 obtain ⟨cs, hB, _, _, _, h1⟩ := h
 rw [hB.cell, h1 k hk]
theorem FinAt.frozen {w : World} {g : Nat} {A : Option Addr} {c : Nat} {T : List UInt8} {F : Fi} (h : FinAt w g A c T F) (k : Nat) : w.frozen? ⟨g, k, none⟩ = false := by
 obtain ⟨cs, hB, _⟩ := h
 exact hB.frozen k
theorem FinAt.below {w w' : World} {g : Nat} {A : Option Addr} {c : Nat} {T : List UInt8} {F : Fi} (h : FinAt w g A c T F) (hb : Below w.heap.size w w') : FinAt w' g A c T F := by
 obtain ⟨cs, hB, r⟩ := h
 exact ⟨cs, hB.below hb hB.lt, r⟩
theorem rb_cell {w : World} {A : Option Addr} {T : List UInt8} (h : RB w A T) (h0 : 0 < T.length) : ∃ b off, A = some ⟨b, off, none⟩ /\ b < w.heap.size /\ ∀ j x, T[j]? = some x -> w.cell? ⟨b, off + j, none⟩ = some (.int .u8 (x.toNat : Int)) := by
 obtain ⟨b, off, e, hb, hc⟩ := h h0
 refine ⟨b, off, e, hb, fun j x hx => ?_⟩
 obtain ⟨hj, rfl⟩ := List.getElem?_eq_some_iff.1 hx
 exact hc j hj
theorem numL_snoc (l : List UInt8) (x : UInt8) : numL (l ++ [x]) = (numL l * 31 + x.toNat) % 4294967296 := by simp [numL]
theorem numL_lt (l : List UInt8) : numL l < 4294967296 := by
 rcases List.eq_nil_or_concat l with rfl | ⟨l', x, rfl⟩
 ·decide
 ·rw [List.concat_eq_append, numL_snoc]
  exact Nat.mod_lt _ (by decide)
theorem u32w (n : Nat) : IntKind.u32.wrap (n : Int) = ((n % 4294967296 : Nat) : Int) := by simp [IntKind.wrap, IntKind.bits, IntKind.signed]
set_option maxHeartbeats 1000000 in
theorem number_any (w : World) (g : Nat) (A : Option Addr) (c : Nat) (T : List UInt8) (F : Fi) (h : FinAt w g A c T F) (hR : RB w A T) (hc : T.length <= c) (hT : T.length <= 4096) (p : Nat) (hp : p + 5 <= T.length) :
  Calls Tryz.prog 307 #[.pointer (some ⟨g, 0, none⟩), .int .i64 (p : Int)] w fun e w' => e = .returned (.int .i64 (slot T p : Nat)) /\ w = w' := by
 obtain ⟨b, off, rfl, hb, hcell⟩ := rb_cell hR (by omega)
 have c0 := h.text
 have e5 : IntKind.i64.wrap ((p : Int) + 5) = (p : Int) + 5 := by rw [IntKind.wrap_i64]; omega
 have h1 : (0 : Int) <= (p : Int) + 5 := by omega
 have h2 : (p : Int) + 5 <= (c : Int) := by omega
 have h3 : ((p : Int) + 5).toNat = p + 5 := by omega
 have h4 : p + 5 - p = 5 := by omega
 have h5 : ¬ (c = p) := by omega
 have HC := hid hcell
 have HP := hid hp
 clear h hR hcell hT hc hp
 go_enter Tryz.func307, Tryz.ntmps307
 go_wp2_with fail
 go_loop [5, 17] (fun x y => ∃ i : Nat, i <= 5 /\ y = .int .i64 (i : Int) /\ x = .int .u32 (numL ((T.drop p).take i) : Nat)) (fun _ y => 5 - (intOf y).toNat)
 case atStart => exact ⟨0, Nat.zero_le _, rfl, rfl⟩
 case round =>
  obtain ⟨i, hi, rfl, rfl⟩ := hrel
  by_cases hi5 : i < 5
  ·have hx : p + i < T.length := by have := HP.out; omega
   have hcx := HC.out (p + i) T[p + i] (List.getElem?_eq_getElem hx)
   rw [<- Nat.add_assoc] at hcx
   have hn : numL ((T.drop p).take (i + 1)) = (numL ((T.drop p).take i) * 31 + T[p + i].toNat) % 4294967296 := by
    rw [List.take_add_one, List.getElem?_drop, List.getElem?_eq_getElem hx]
    exact numL_snoc _ _
   have hN := numL_lt ((T.drop p).take i)
   have hy8 := T[p + i].toNat_lt
   generalize T[p + i].toNat = y at hcx hn hy8
   have HN := hid hn
   clear hn
   generalize numL ((T.drop p).take i) = N at *
   have m1 : IntKind.u32.wrap ((N : Int) * 31) = ((N * 31 % 4294967296 : Nat) : Int) := by rw [<- u32w]; simp
   have m2 : IntKind.u32.wrap (((N * 31 % 4294967296 : Nat) : Int) + (y : Int)) = (((N * 31 + y) % 4294967296 : Nat) : Int) := by
    rw [show ((N * 31 % 4294967296 : Nat) : Int) + (y : Int) = ((N * 31 % 4294967296 + y : Nat) : Int) by omega, u32w]
    omega
   have m3 : IntKind.u32.wrap (y : Int) = (y : Int) := by rw [u32w]; omega
   have hl : decide ((i : Int) < 5) = true := by simp; omega
   generalize N * 31 % 4294967296 = N2 at m1 m2
   generalize hM : (N * 31 + y) % 4294967296 = M at m2 HN
   clear hM
   go_wp2_with fail
   go_round
   case rel => exact ⟨i + 1, by omega, by go_num, by rw [HN.out]⟩
   case measure => simp [intOf]; omega
  ·obtain rfl : i = 5 := by omega
   have hs : slot T p = numL ((T.drop p).take 5) % 1024 := rfl
   have hN := numL_lt ((T.drop p).take 5)
   generalize numL ((T.drop p).take 5) = N at *
   have HS := hid hs
   clear hs
   go_wp2_with fail
   go_ret
   exact ⟨by rw [HS.out]; go_num, rfl⟩
theorem same_step (T : List UInt8) (q p k n : Nat) (h : n < 258 /\ p + n < T.length /\ T[q + n]? = T[p + n]?) : same T q p (k + 1) n = same T q p k (n + 1) := by rw [same, if_pos h]
theorem same_stop (T : List UInt8) (q p k n : Nat) (h : ¬ (n < 258 /\ p + n < T.length /\ T[q + n]? = T[p + n]?)) : same T q p k n = n := by
 cases k with
 | zero => rfl
 | succ k => rw [same, if_neg h]
set_option maxHeartbeats 2000000 in
theorem alike_any (w : World) (g : Nat) (A : Option Addr) (c : Nat) (T : List UInt8) (F : Fi) (h : FinAt w g A c T F) (hR : RB w A T) (hT : T.length <= 4096) (q p : Nat) (hq : q < p) (hp : p + 5 <= T.length) :
  Calls Tryz.prog 308 #[.pointer (some ⟨g, 0, none⟩), .int .i64 (q : Int), .int .i64 (p : Int)] w fun e w' => e = .returned (.int .i64 (alikeN T q p : Nat)) /\ Below w.heap.size w w' := by
 obtain ⟨b, off, rfl, hb, hcell⟩ := rb_cell hR (by omega)
 have HF := hid h
 have HC := hid hcell
 have HP := hid hp
 have HQ := hid hq
 have HT := hid hT
 clear h hR hcell hT hp hq
 go_enter Tryz.func308, Tryz.ntmps308
 go_wp2_with fail
 go_loopw [7] (fun x wr => ∃ n : Nat, n <= 258 /\ x = .int .i64 (n : Int) /\ Hid (same T q p (258 - n) n = alikeN T q p) /\ Hid (Below w.heap.size w wr)) (fun x _ => 258 - (intOf x).toNat)
 case atStart => exact ⟨0, Nat.zero_le _, rfl, hid rfl, hid (Below.refl _ _)⟩
 case round =>
  obtain ⟨n, hn, rfl, HS, HB⟩ := hrel
  have c0 : wr.cell? ⟨g, 0, none⟩ = some (.slice (some ⟨b, off, none⟩) T.length c) := (HF.out.below HB.out).text
  have e1 : IntKind.i64.wrap ((p : Int) + n) = (p : Int) + n := by have := HT.out; have := HP.out; rw [IntKind.wrap_i64]; omega
  have e2 : IntKind.i64.wrap ((q : Int) + n) = (q : Int) + n := by have := HT.out; have := HP.out; have := HQ.out; rw [IntKind.wrap_i64]; omega
  by_cases h1 : n < 258
  ·have g1 : decide ((n : Int) < 258) = true := by simp; omega
   by_cases h2 : p + n < T.length
   ·have g2 : decide ((p : Int) + n < (T.length : Int)) = true := by simp; omega
    have hx1 : p + n < T.length := h2
    have hx2 : q + n < T.length := by have := HQ.out; omega
    have k1 : wr.cell? ⟨b, off + (p + n), none⟩ = some (.int .u8 (T[p + n].toNat : Int)) := (HB.out.cell hb).trans (HC.out _ _ (List.getElem?_eq_getElem hx1))
    have k2 : wr.cell? ⟨b, off + (q + n), none⟩ = some (.int .u8 (T[q + n].toNat : Int)) := (HB.out.cell hb).trans (HC.out _ _ (List.getElem?_eq_getElem hx2))
    have t1 : ((p : Int) + n).toNat = p + n := by omega
    have t2 : ((q : Int) + n).toNat = q + n := by omega
    have b1 : (0 : Int) <= (p : Int) + n := by omega
    have b2 : (0 : Int) <= (q : Int) + n := by omega
    have b3 : (q : Int) + n < (T.length : Int) := by omega
    have b4 : (p : Int) + n < (T.length : Int) := by omega
    have hEq : Hid ((T[q + n].toNat = T[p + n].toNat) ↔ T[q + n]? = T[p + n]?) := hid (by
     rw [List.getElem?_eq_getElem hx1, List.getElem?_eq_getElem hx2]
     constructor
     ·intro e; rw [UInt8.toNat_inj.mp e]
     ·intro e; injection e with e; rw [e])
    generalize T[p + n].toNat = y at *
    generalize T[q + n].toNat = x at *
    clear hx1 hx2
    by_cases hxy : x = y
    ·subst hxy
     have HE : Hid (same T q p (258 - n) n = same T q p (258 - (n + 1)) (n + 1)) := hid (by
      rw [show 258 - n = (258 - (n + 1)) + 1 by omega]
      exact same_step T q p _ n ⟨h1, h2, hEq.out.mp rfl⟩)
     clear hEq
     go_wp2_with fail
     go_quiet (fail)
     have HB2 : Hid (Below w.heap.size w (wr.drewN nq)) := hid (HB.out.trans (below_drewN (Below.refl _ _) nq))
     clear k1 k2 c0 e1 e2
     go_wp2_with fail
     go_roundw
     case rel => exact ⟨n + 1, by omega, by go_num, hid (by rw [<- HE.out]; exact HS.out), HB2⟩
     case measure => simp [intOf]; omega
    ·have HE : Hid (alikeN T q p = n) := hid (by
      rw [<- HS.out]
      exact same_stop T q p _ n (fun hh => hxy (by have := hEq.out.mpr hh.2.2; omega)))
     have g3 : decide ((x : Int) = (y : Int)) = false := by simp; omega
     have g4 : ((x : Int) == (y : Int)) = false := by simpa using g3
     clear hEq
     go_wp2_with fail
     go_quiet (fail)
     have HB2 : Hid (Below w.heap.size w (wr.drewN nq)) := hid (HB.out.trans (below_drewN (Below.refl _ _) nq))
     clear k1 k2 c0 e1 e2
     go_wp2_with fail
     go_ret
     exact ⟨by rw [HE.out]; rfl, HB2.out⟩
   ·have HE : Hid (alikeN T q p = n) := hid (by
     rw [<- HS.out]
     exact same_stop T q p _ n (fun hh => h2 hh.2.1))
    have g2 : decide ((p : Int) + n < (T.length : Int)) = false := by simp; omega
    go_wp2_with fail
    go_quiet (fail)
    have HB2 : Hid (Below w.heap.size w (wr.drewN nq)) := hid (HB.out.trans (below_drewN (Below.refl _ _) nq))
    clear c0 e1 e2
    go_wp2_with fail
    go_ret
    exact ⟨by rw [HE.out]; rfl, HB2.out⟩
  ·have HE : Hid (alikeN T q p = n) := hid (by
    rw [<- HS.out]
    exact same_stop T q p _ n (fun hh => h1 hh.1))
   have g1 : decide ((n : Int) < 258) = false := by simp; omega
   go_wp2_with fail
   go_quiet (fail)
   have HB2 : Hid (Below w.heap.size w (wr.drewN nq)) := hid (HB.out.trans (below_drewN (Below.refl _ _) nq))
   clear c0 e1 e2
   go_wp2_with fail
   go_ret
   exact ⟨by rw [HE.out]; rfl, HB2.out⟩
theorem FinAt.drewN {w : World} {g : Nat} {A : Option Addr} {c : Nat} {T : List UInt8} {F : Fi} (h : FinAt w g A c T F) (n : Nat) : FinAt (w.drewN n) g A c T F := h
theorem FinAt.setLast {w : World} {g : Nat} {A : Option Addr} {c : Nat} {T : List UInt8} {F : Fi} (h : FinAt w g A c T F) (k v : Nat) (hk : k < 1024) : FinAt (w.setCell ⟨g, 1 + k, none⟩ (.int .i64 (v : Int))) g A c T ⟨upd F.last k v, F.ahead⟩ := by
 obtain ⟨cs, hB, hs, h0, h1, h2⟩ := h
 refine ⟨_, hB.set_ (1 + k) _, by simpa using hs, ?_, fun j hj => ?_, fun j hj => ?_⟩
 ·rw [Array.getElem?_setIfInBounds, if_neg (by omega), h0]
 ·rw [Array.getElem?_setIfInBounds]
  by_cases e : j = k
  ·subst e
   rw [if_pos rfl, if_pos (by omega)]
   simp [upd]
  ·rw [if_neg (by omega), h1 j hj]
   simp [upd, e]
 ·rw [Array.getElem?_setIfInBounds, if_neg (by omega), h2 j hj]
theorem FinAt.setAhead {w : World} {g : Nat} {A : Option Addr} {c : Nat} {T : List UInt8} {F : Fi} (h : FinAt w g A c T F) (k v : Nat) (hk : k < 4096) : FinAt (w.setCell ⟨g, 1025 + k, none⟩ (.int .i64 (v : Int))) g A c T ⟨F.last, upd F.ahead k v⟩ := by
 obtain ⟨cs, hB, hs, h0, h1, h2⟩ := h
 refine ⟨_, hB.set_ (1025 + k) _, by simpa using hs, ?_, fun j hj => ?_, fun j hj => ?_⟩
 ·rw [Array.getElem?_setIfInBounds, if_neg (by omega), h0]
 ·rw [Array.getElem?_setIfInBounds, if_neg (by omega), h1 j hj]
 ·rw [Array.getElem?_setIfInBounds]
  by_cases e : j = k
  ·subst e
   rw [if_pos rfl, if_pos (by omega)]
   simp [upd]
  ·rw [if_neg (by omega), h2 j hj]
   simp [upd, e]
theorem grown_drew {w w' : World} {row : Option Nat} (h : w.grownBy w' row) : w.grownBy w'.drew row := ⟨h.os, h.tape, h.output, h.size, h.block⟩
set_option maxHeartbeats 2000000 in
theorem passes_any (w : World) (g : Nat) (A : Option Addr) (c : Nat) (T : List UInt8) (F : Fi) (h : FinAt w g A c T F) (hR : RB w A T) (hc : T.length <= c) (hT : T.length <= 4096) (p : Nat) (hp : p <= T.length) :
  Calls Tryz.prog 290 #[.pointer (some ⟨g, 0, none⟩), .int .i64 (p : Int)] w fun e w' => e = .returned (.tuple #[]) /\ FinAt w' g A c T (passN T F p) /\ w.grownBy w' (some g) := by
 have c0 := h.text
 have e5 : IntKind.i64.wrap ((p : Int) + 5) = (p : Int) + 5 := by rw [IntKind.wrap_i64]; omega
 have HF := hid h
 have HR := hid hR
 by_cases h5 : p + 5 <= T.length
 ·have g1 : decide ((T.length : Int) < (p : Int) + 5) = false := by simp; omega
  have hs := slot_lt T p
  have HS : Hid (passN T F p = ⟨upd F.last (slot T p) (p + 1), upd F.ahead p (F.last (slot T p))⟩) := hid (by rw [passN, if_pos h5])
  have l1 := h.lastC _ hs
  have a1 := h.aheadC p (by omega)
  have fr := fun k => h.frozen k
  have HN := hid (number_any w g A c T F h hR hc hT p h5)
  have hp4 : p < 4096 := by omega
  generalize slot T p = s at *
  have t1 : (s : Int) < 1024 := by omega
  have t2 : (p : Int) < 4096 := by omega
  have e6 : IntKind.i64.wrap ((p : Int) + 1) = (p : Int) + 1 := by rw [IntKind.wrap_i64]; omega
  clear h hR hT hc hp h5
  go_enter Tryz.func290, Tryz.ntmps290
  go_wp2_with (first | (go_at_call 307; refine HN.out.mono ?_; rintro e w1 ⟨rfl, rfl⟩) | fail)
  go_region_with (fail)
  have hF2 := HF.out.setAhead p (F.last s) hp4
  have HF2 : Hid (FinAt (w.setCell ⟨g, 1025 + p, none⟩ (.int .i64 (F.last s : Nat))).drew g A c T ⟨F.last, upd F.ahead p (F.last s)⟩) := hid hF2
  have HG2 : Hid (w.grownBy (w.setCell ⟨g, 1025 + p, none⟩ (.int .i64 (F.last s : Nat))).drew (some g)) := hid (grown_drew (grown_set w g (1025 + p) _))
  clear hF2 l1 a1 c0 fr
  generalize (w.setCell ⟨g, 1025 + p, none⟩ (.int .i64 (F.last s : Nat))).drew = w2 at *
  have l2 := HF2.out.lastC s hs
  have f2 := HF2.out.frozen (1 + s)
  go_wp2_with fail
  go_end0
  refine ⟨rfl, ?_, grownBy_tr HG2.out (grown_set w2 g (1 + s) _)⟩
  rw [HS.out]
  have := HF2.out.setLast s (p + 1) hs
  rwa [show ((p + 1 : Nat) : Int) = (p : Int) + 1 by omega] at this
 ·have g1 : decide ((T.length : Int) < (p : Int) + 5) = true := by simp; omega
  have HS : Hid (passN T F p = F) := hid (by rw [passN, if_neg h5])
  clear h hR hT hc hp h5
  go_enter Tryz.func290, Tryz.ntmps290
  go_wp2_with fail
  refine bodyPost_ret (results_none rfl _ _ _) rfl ?_
  exact ⟨rfl, by rw [HS.out]; exact HF.out, World.grownBy.refl w _⟩
def tokC (d n : Nat) : Array Value := #[.slice none 0 0, .int .i64 (d : Int), .int .i64 (n : Int)]
set_option maxHeartbeats 4000000 in
theorem match_any (w : World) (g : Nat) (A : Option Addr) (c : Nat) (T : List UInt8) (F : Fi) (h : FinAt w g A c T F) (hR : RB w A T) (hc : T.length <= c) (hT : T.length <= 4096) (p : Nat) (hp : p <= T.length) (hI : Inv F p) :
  Calls Tryz.prog 289 #[.pointer (some ⟨g, 0, none⟩), .int .i64 (p : Int)] w fun e w' => e = .returned (.agg (tokC (matchN T F p).1 (matchN T F p).2)) /\ Below w.heap.size w w' := by
 have hgl : g < w.heap.size := by obtain ⟨cs, hB, _⟩ := h; exact hB.lt
 have hT0 : Blk ((w.alloc (.cells #[.slice none 0 0, .int .i64 0, .int .i64 0] 373)).alloc (.cells #[.slice none 0 0, .int .i64 0, .int .i64 0] 373)) w.heap.size 373 (tokC 0 0) := (Blk.new w _ _).alloc _
 have hT1 : Blk ((w.alloc (.cells #[.slice none 0 0, .int .i64 0, .int .i64 0] 373)).alloc (.cells #[.slice none 0 0, .int .i64 0, .int .i64 0] 373)) (w.heap.size + 1) 373 (tokC 0 0) := by
  have := Blk.new (w.alloc (.cells #[.slice none 0 0, .int .i64 0, .int .i64 0] 373)) 373 (tokC 0 0)
  simpa [tokC] using this
 have hb : Below w.heap.size w ((w.alloc (.cells #[.slice none 0 0, .int .i64 0, .int .i64 0] 373)).alloc (.cells #[.slice none 0 0, .int .i64 0, .int .i64 0] 373)) := ((Below.refl _ _).alloc (Nat.le_refl _) _).alloc (by simp) _
 have HF := hid h
 have HR := hid hR
 have HI := hid hI
 have HC := hid hc
 have HT := hid hT
 have HP := hid hp
 have e5 : IntKind.i64.wrap ((p : Int) + 5) = (p : Int) + 5 := by rw [IntKind.wrap_i64]; omega
 clear h hR hc hT hp hI
 go_enter Tryz.func289, Tryz.ntmps289
 go_wp2_with fail
 go_step3
 iterate 5 (first | go_step | go_upon)
 generalize World.alloc (World.alloc w _) _ = w0 at *
 have HT0 := hid hT0
 have HT1 := hid hT1
 have HB := hid hb
 clear hT0 hT1 hb
 have c0 : w0.cell? ⟨g, 0, none⟩ = some (.slice A T.length c) := (HF.out.below HB.out).text
 by_cases h5 : p + 5 <= T.length
 ·have g1 : decide ((T.length : Int) < (p : Int) + 5) = false := by simp; omega
  have hs := slot_lt T p
  have HN := hid h5
  have hF0 : FinAt w0 g A c T F := HF.out.below HB.out
  have l1 := hF0.lastC _ hs
  have HM : Hid (lookN T F p (F.last (slot T p)) (F.last (slot T p)) (0, 0) = matchN T F p) := hid (by rw [matchN, if_pos h5])
  have hla := HI.out.last (slot T p)
  have hF0' : FinAt w0.drew g A c T F := hF0
  have hR0' : RB w0.drew A T := HR.out.below HB.out.drew
  have hcall := hid (number_any w0.drew g A c T F hF0' hR0' HC.out HT.out p h5)
  clear hF0' hR0'
  generalize slot T p = s at *
  have t1 : (s : Int) < 1024 := by omega
  clear h5
  go_wp2_with fail
  go_region_with (first | (go_at_call 307; refine hcall.out.mono ?_; rintro e w1 ⟨rfl, rfl⟩) | fail)
  have HB1 : Hid (Below w.heap.size w w0.drew) := hid HB.out.drew
  have HT01 : Hid (Blk w0.drew w.heap.size 373 (tokC 0 0)) := HT0
  have HT11 : Hid (Blk w0.drew (w.heap.size + 1) 373 (tokC 0 0)) := HT1
  clear hF0 l1 HB HT0 HT1 c0
  generalize F.last s = fr0 at *
  generalize w0.drew = w1 at *
  go_wp2_with fail
  go_step3
  go_wp2_with fail
  simp only [Act.put, List.getElem_toArray, List.getElem_cons_succ, List.getElem_cons_zero]
  go_frame
  go_loopw [6] (fun x wr => ∃ (fr k d m : Nat), fr <= k /\ fr <= p /\ x = .int .i64 (fr : Int) /\ m <= 258 /\ Hid (lookN T F p k fr (d, m) = matchN T F p) /\ Hid (Blk wr w.heap.size 373 (tokC 0 0)) /\ Hid (Blk wr (w.heap.size + 1) 373 (tokC d m)) /\ Hid (Below w.heap.size w wr)) (fun x _ => (intOf x).toNat)
  case atStart => exact ⟨fr0, fr0, 0, 0, Nat.le_refl _, hla, rfl, Nat.zero_le _, HM, HT01, HT11, HB1⟩
  case round =>
   obtain ⟨fr, k, d, m, hk, hfp, rfl, hm, HL, HRB0, HRB1, HRW⟩ := hrel
   clear HT01 HT11 HB1 HM
   cases fr with
   | zero =>
    have HE : Hid (matchN T F p = (d, m)) := hid (by
     rw [<- HL.out]
     cases k <;> simp [lookN])
    clear HL
    go_wp2_with (first
     | ((with_reducible refine at_op ⟨_, .load 373 (.tmp 5), _, _, _, _⟩ ?_); refine wpList_load_list rfl 373 (.tmp 5) rfl ⟨w.heap.size + 1, 0, none⟩ rfl (tokC d m).toList (fun j v hv => by rw [add_flat, Nat.zero_add, HRB1.out.cell, <- Array.getElem?_toList]; exact hv) _ Tryz.underlying373 rfl (by kernel_rfl) ?_)
     | ((with_reducible refine at_op ⟨_, .store 373 (.tmp 4) (.tmp 59), _, _, _, _⟩ ?_); refine wpList_store_blk rfl 373 (.tmp 4) (.tmp 59) rfl w.heap.size 0 rfl (tokC d m).toList rfl (by intro u hu; simp [tokC] at hu; rcases hu with rfl | rfl | rfl <;> rfl) 373 _ HRB0.out (by simp [tokC]) (by kernel_rfl) ?_; intro w2 hT2 hg2 hs2)
     | fail)
    rw [put_all _ _ (by simp [tokC])] at hT2
    rw [Exit.noGoto_ret]
    refine bodyPost_ret (results_cell_row rfl _ _ w.heap.size 373 (tokC d m).toList.toArray (0, 0) _ rfl hT2 Tryz.underlying373 rfl (by kernel_rfl)) rfl ?_
    exact ⟨by rw [HE.out], below_gb HRW.out hg2 HRW.out.size (Nat.le_refl _)⟩
   | succ q =>
    have hq4 : q < 4096 := by have := HT.out; have := HP.out; omega
    have hqp : q < p := by omega
    obtain ⟨k', rfl⟩ : ∃ k', k = k' + 1 := ⟨k - 1, by omega⟩
    have hFW : FinAt wr g A c T F := HF.out.below HRW.out
    have a1 := hFW.aheadC q hq4
    have hah := HI.out.ahead q
    have e1 : IntKind.i64.wrap (((q + 1 : Nat) : Int) - 1) = (q : Int) := by rw [IntKind.wrap_i64]; omega
    have e2 : IntKind.i64.wrap ((p : Int) - (q : Int)) = ((p - q : Nat) : Int) := by have := HT.out; have := HP.out; rw [IntKind.wrap_i64]; omega
    have g2 : decide ((0 : Int) < ((q + 1 : Nat) : Int)) = true := decide_eq_true (by omega)
    have t2 : (q : Int) < 4096 := by omega
    by_cases hw : 2048 < p - q
    ·have g3 : decide ((2048 : Int) < ((p - q : Nat) : Int)) = true := by simp; omega
     have HE : Hid (matchN T F p = (d, m)) := hid (by
      rw [<- HL.out, lookN, if_neg (Nat.succ_ne_zero q), if_pos (show 2048 < p - (q + 1 - 1) by omega)])
     clear HL
     generalize p - q = δ at *
     go_wp2_with (first
      | ((with_reducible refine at_op ⟨_, .load 373 (.tmp 5), _, _, _, _⟩ ?_); refine wpList_load_list rfl 373 (.tmp 5) rfl ⟨w.heap.size + 1, 0, none⟩ rfl (tokC d m).toList (fun j v hv => by rw [add_flat, Nat.zero_add, HRB1.out.cell, <- Array.getElem?_toList]; exact hv) _ Tryz.underlying373 rfl (by kernel_rfl) ?_)
      | ((with_reducible refine at_op ⟨_, .store 373 (.tmp 4) (.tmp 59), _, _, _, _⟩ ?_); refine wpList_store_blk rfl 373 (.tmp 4) (.tmp 59) rfl w.heap.size 0 rfl (tokC d m).toList rfl (by intro u hu; simp [tokC] at hu; rcases hu with rfl | rfl | rfl <;> rfl) 373 _ HRB0.out (by simp [tokC]) (by kernel_rfl) ?_; intro w2 hT2 hg2 hs2)
      | fail)
     rw [put_all _ _ (by simp [tokC])] at hT2
     rw [Exit.noGoto_ret]
     refine bodyPost_ret (results_cell_row rfl _ _ w.heap.size 373 (tokC d m).toList.toArray (0, 0) _ rfl hT2 Tryz.underlying373 rfl (by kernel_rfl)) rfl ?_
     exact ⟨by rw [HE.out], below_gb HRW.out hg2 HRW.out.size (Nat.le_refl _)⟩
    ·have g3 : decide ((2048 : Int) < ((p - q : Nat) : Int)) = false := by simp; omega
     have hal := alike_le T q p HP.out
     have hn := hid (alike_any wr g A c T F hFW (HR.out.below HRW.out) HT.out q p hqp HN.out)
     have HL3 : Hid ((if alikeN T q p < 5 \/ alikeN T q p <= m then lookN T F p k' (F.ahead q) (d, m) else if alikeN T q p = 258 then (p - q, alikeN T q p) else lookN T F p k' (F.ahead q) (p - q, alikeN T q p)) = matchN T F p) := hid (by
      rw [<- HL.out]
      conv => rhs; rw [lookN, if_neg (Nat.succ_ne_zero q), if_neg (show ¬ 2048 < p - (q + 1 - 1) by omega)]
      rfl)
     clear HL hFW
     have hq1 : q <= k' := by omega
     generalize alikeN T q p = n at *
     generalize F.ahead q = r at *
     generalize p - q = δ at *
     have hn8 : n <= 258 := hal.1
     have hr1 : r <= k' := by omega
     have hr2 : r <= p := by omega
     have hr3 : r < q + 1 := by omega
     clear hal hah hq1
     by_cases h5 : n < 5
     ·have g5 : decide ((n : Int) < 5) = true := by simp; omega
      have HL4 : Hid (lookN T F p k' r (d, m) = matchN T F p) := hid (by rw [<- HL3.out, if_pos (Or.inl h5)])
      clear HL3
      go_wp2_with (first | (go_at_call 308; refine hn.out.mono ?_; rintro e w3 ⟨rfl, hb3⟩; have HB3 := hid hb3; have km : w3.cell? ⟨w.heap.size + 1, 2, none⟩ = some (.int .i64 (m : Int)) := (hb3.cell (p := ⟨w.heap.size + 1, 2, none⟩) HRB1.out.lt).trans ((HRB1.out.cell 2).trans rfl); clear hb3) | fail)
      go_roundw
      case rel => exact ⟨r, k', d, m, hr1, hr2, rfl, hm, HL4, hid (HRB0.out.below HB3.out HRB0.out.lt), hid (HRB1.out.below HB3.out HRB1.out.lt), hid (HRW.out.trans (HB3.out.mono HRW.out.size))⟩
      case measure => simp [intOf]; omega
     ·have g5 : decide ((n : Int) < 5) = false := by simp; omega
      by_cases h6 : n <= m
      ·have g6 : decide ((n : Int) <= (m : Int)) = true := by simp; omega
       have HL4 : Hid (lookN T F p k' r (d, m) = matchN T F p) := hid (by rw [<- HL3.out, if_pos (Or.inr h6)])
       clear HL3
       go_wp2_with (first | (go_at_call 308; refine hn.out.mono ?_; rintro e w3 ⟨rfl, hb3⟩; have HB3 := hid hb3; have km : w3.cell? ⟨w.heap.size + 1, 2, none⟩ = some (.int .i64 (m : Int)) := (hb3.cell (p := ⟨w.heap.size + 1, 2, none⟩) HRB1.out.lt).trans ((HRB1.out.cell 2).trans rfl); clear hb3) | fail)
       go_roundw
       case rel => exact ⟨r, k', d, m, hr1, hr2, rfl, hm, HL4, hid (HRB0.out.below HB3.out HRB0.out.lt), hid (HRB1.out.below HB3.out HRB1.out.lt), hid (HRW.out.trans (HB3.out.mono HRW.out.size))⟩
       case measure => simp [intOf]; omega
      ·have g6 : decide ((n : Int) <= (m : Int)) = false := by simp; omega
       by_cases h8 : n = 258
       ·have g8 : ((n : Int) == 258) = true := by simp; omega
        have HE : Hid (matchN T F p = (δ, n)) := hid (by rw [<- HL3.out, if_neg (by omega), if_pos h8])
        clear HL3 h8
        go_wp2_with (first
        | (go_at_call 308; refine hn.out.mono ?_; rintro e w3 ⟨rfl, hb3⟩; have HB3 := hid hb3; have km : w3.cell? ⟨w.heap.size + 1, 2, none⟩ = some (.int .i64 (m : Int)) := (hb3.cell (p := ⟨w.heap.size + 1, 2, none⟩) HRB1.out.lt).trans ((HRB1.out.cell 2).trans rfl); clear hb3)
        | ((with_reducible refine at_op ⟨_, .store 373 (.tmp 5) (.tmp 56), _, _, _, _⟩ ?_); refine wpList_store_blk rfl 373 (.tmp 5) (.tmp 56) rfl (w.heap.size + 1) 0 rfl (tokC δ n).toList rfl (by intro u hu; simp [tokC] at hu; rcases hu with rfl | rfl | rfl <;> rfl) 373 _ (HRB1.out.below HB3.out HRB1.out.lt) (by simp [tokC]) (by kernel_rfl) ?_; intro w4 hT4 hg4 hs4; clear km; rw [put_all _ _ (by simp [tokC])] at hT4; have HN1 : Hid (Blk w4 (w.heap.size + 1) 373 (tokC δ n)) := hT4; have HN0 : Hid (Blk w4 w.heap.size 373 (tokC 0 0)) := hid ((HRB0.out.below HB3.out HRB0.out.lt).gb hg4 (by omega)); have HNW : Hid (Below w.heap.size w w4) := hid (below_gb (HRW.out.trans (HB3.out.mono HRW.out.size)) hg4 (by have := HRB1.out.lt; have := HB3.out.size; omega) (by omega)); clear hT4 hg4 hs4)
         | ((with_reducible refine at_op ⟨_, .load 373 (.tmp 5), _, _, _, _⟩ ?_); refine wpList_load_list rfl 373 (.tmp 5) rfl ⟨w.heap.size + 1, 0, none⟩ rfl (tokC δ n).toList (fun j v hv => by rw [add_flat, Nat.zero_add, HN1.out.cell, <- Array.getElem?_toList]; exact hv) _ Tryz.underlying373 rfl (by kernel_rfl) ?_)
         | ((with_reducible refine at_op ⟨_, .store 373 (.tmp 4) (.tmp 59), _, _, _, _⟩ ?_); refine wpList_store_blk rfl 373 (.tmp 4) (.tmp 59) rfl w.heap.size 0 rfl (tokC δ n).toList rfl (by intro u hu; simp [tokC] at hu; rcases hu with rfl | rfl | rfl <;> rfl) 373 _ HN0.out (by simp [tokC]) (by kernel_rfl) ?_; intro w2 hT2 hg2 hs2)
         | fail)
        rw [put_all _ _ (by simp [tokC])] at hT2
        rw [Exit.noGoto_ret]
        refine bodyPost_ret (results_cell_row rfl _ _ w.heap.size 373 (tokC δ n).toList.toArray (0, 0) _ rfl hT2 Tryz.underlying373 rfl (by kernel_rfl)) rfl ?_
        exact ⟨by rw [HE.out], below_gb HNW.out hg2 HNW.out.size (Nat.le_refl _)⟩
       ·have g8 : ((n : Int) == 258) = false := by simp; omega
        have HL4 : Hid (lookN T F p k' r (δ, n) = matchN T F p) := hid (by rw [<- HL3.out, if_neg (by omega), if_neg h8])
        clear HL3
        go_wp2_with (first
        | (go_at_call 308; refine hn.out.mono ?_; rintro e w3 ⟨rfl, hb3⟩; have HB3 := hid hb3; have km : w3.cell? ⟨w.heap.size + 1, 2, none⟩ = some (.int .i64 (m : Int)) := (hb3.cell (p := ⟨w.heap.size + 1, 2, none⟩) HRB1.out.lt).trans ((HRB1.out.cell 2).trans rfl); clear hb3)
        | ((with_reducible refine at_op ⟨_, .store 373 (.tmp 5) (.tmp 56), _, _, _, _⟩ ?_); refine wpList_store_blk rfl 373 (.tmp 5) (.tmp 56) rfl (w.heap.size + 1) 0 rfl (tokC δ n).toList rfl (by intro u hu; simp [tokC] at hu; rcases hu with rfl | rfl | rfl <;> rfl) 373 _ (HRB1.out.below HB3.out HRB1.out.lt) (by simp [tokC]) (by kernel_rfl) ?_; intro w4 hT4 hg4 hs4; clear km; rw [put_all _ _ (by simp [tokC])] at hT4; have HN1 : Hid (Blk w4 (w.heap.size + 1) 373 (tokC δ n)) := hT4; have HN0 : Hid (Blk w4 w.heap.size 373 (tokC 0 0)) := hid ((HRB0.out.below HB3.out HRB0.out.lt).gb hg4 (by omega)); have HNW : Hid (Below w.heap.size w w4) := hid (below_gb (HRW.out.trans (HB3.out.mono HRW.out.size)) hg4 (by have := HRB1.out.lt; have := HB3.out.size; omega) (by omega)); clear hT4 hg4 hs4)
        | fail)
        go_roundw
        case rel => exact ⟨r, k', δ, n, hr1, hr2, rfl, hn8, HL4, HN0, HN1, HNW⟩
        case measure => simp [intOf]; omega
 ·have g1 : decide ((T.length : Int) < (p : Int) + 5) = true := by simp; omega
  have HM : Hid (matchN T F p = (0, 0)) := hid (by rw [matchN, if_neg h5])
  go_wp2_with (first
   | ((with_reducible refine at_op ⟨_, .load 373 (.tmp 5), _, _, _, _⟩ ?_); refine wpList_load_list rfl 373 (.tmp 5) rfl ⟨w.heap.size + 1, 0, none⟩ rfl (tokC 0 0).toList (fun j v hv => by rw [add_flat, Nat.zero_add, HT1.out.cell, <- Array.getElem?_toList]; exact hv) _ Tryz.underlying373 rfl (by kernel_rfl) ?_)
   | ((with_reducible refine at_op ⟨_, .store 373 (.tmp 4) (.tmp 17), _, _, _, _⟩ ?_); refine wpList_store_blk rfl 373 (.tmp 4) (.tmp 17) rfl w.heap.size 0 rfl (tokC 0 0).toList rfl (by decide) 373 _ HT0.out (by decide) (by kernel_rfl) ?_; intro w2 hT2 hg2 hs2)
   | fail)
  rw [put_all _ _ (by simp [tokC])] at hT2
  rw [Exit.noGoto_ret]
  refine bodyPost_ret (results_cell_row rfl _ _ w.heap.size 373 (tokC 0 0).toList.toArray (0, 0) _ rfl hT2 Tryz.underlying373 rfl (by kernel_rfl)) rfl ?_
  exact ⟨by rw [HM.out], below_gb HB.out hg2 HB.out.size (Nat.le_refl _)⟩
set_option maxHeartbeats 2000000 in
theorem literal_any (w : World) (A : Option Addr) (c : Nat) (l : List UInt8) (h0 : 0 < l.length) (hl : l.length <= 1099511627776) (hR : RB w A l) :
  Calls Tryz.prog 291 #[.slice A l.length c] w fun e w' => ∃ A' c', e = .returned (.agg #[.slice A' l.length c', .int .i64 0, .int .i64 0]) /\ w'.ownsRow (w.heap.size + 1) 5 1 (.slice A' l.length c') l.length (bc l) /\ Below w.heap.size w w' := by
 obtain ⟨i0, hi, hz0, hz1, hz2⟩ := info_parts infoB
 obtain ⟨b, off, rfl, hb, hcell⟩ := rb_cell hR h0
 have HC := hid hcell
 have hmk := fun w => run_make_rowN (P := Tryz.prog) 74 5 i0 (.int .u8 0) Tryz.underlying74 hi hz0 .i64 .i64 l.length l.length (Nat.le_refl _) (by rw [hz2]; omega) (by omega) w
 rw [hz1, Nat.mul_one] at hmk
 clear hcell hR
 generalize hn : l.length = n at *
 go_enter Tryz.func291, Tryz.ntmps291
 have hcur : (madeCells (Value.int .u8 0).cells n).size = n := madeCells_size _ _
 have hbl : (bc l).length = n := by rw [bc_length]; exact hn
 have hb2 : Below w.heap.size w ((w.alloc (.cells #[.slice none 0 0, .int .i64 0, .int .i64 0] 373)).alloc (.cells (madeCells #[.int .u8 0] n) 5)) := ((Below.refl _ _).alloc (Nat.le_refl _) _).alloc (by simp) _
 have HROW0 : Hid (((w.alloc (.cells #[.slice none 0 0, .int .i64 0, .int .i64 0] 373)).alloc (.cells (madeCells #[.int .u8 0] n) 5)).heap[w.heap.size + 1]? = some (.cells (madeCells #[.int .u8 0] n).toList.toArray 5 (0, 0))) := hid (by
  have := heap_alloc_new (w.alloc (.cells #[.slice none 0 0, .int .i64 0, .int .i64 0] 373)) (.cells (madeCells #[.int .u8 0] n) 5)
  simpa using this)
 have HTOK : Hid (Blk ((w.alloc (.cells #[.slice none 0 0, .int .i64 0, .int .i64 0] 373)).alloc (.cells (madeCells #[.int .u8 0] n) 5)) w.heap.size 373 #[.slice none 0 0, .int .i64 0, .int .i64 0]) := hid ((Blk.new w _ _).alloc _)
 have HSRC : Hid (∀ j v, (bc l)[j]? = some v -> ((w.alloc (.cells #[.slice none 0 0, .int .i64 0, .int .i64 0] 373)).alloc (.cells (madeCells #[.int .u8 0] n) 5)).cell? ((⟨b, off, none⟩ : Addr).add j) = some v) := hid (fun j v hv => by
  obtain ⟨x, hx, rfl⟩ : ∃ x, l[j]? = some x /\ v = .int .u8 (x.toNat : Int) := by
   simp only [bc, List.getElem?_map, Option.map_eq_some_iff] at hv
   obtain ⟨x, h1, h2⟩ := hv
   exact ⟨x, h1, h2.symm⟩
  rw [add_flat]
  exact (hb2.cell hb).trans (HC.out j x hx))
 have HB2 := hid hb2
 have HCS := hid hcur
 have HBL := hid hbl
 have HN := hid hn
 clear hcur hbl hn hb2
 go_wp2_with (first
  | ((with_reducible refine at_op ⟨_, .call { callee := .builtin .copy, args := _, argTypes := _ }, _, _, _, _⟩ ?_); (refine Go.wpList_copy_splice rfl _ _ 74 74 rfl 5 Tryz.underlying74 (by kernel_rfl) (some ⟨w.heap.size + 1, 0, none⟩) (some ⟨b, off, none⟩) n n n c rfl rfl (w.heap.size + 1) 0 (madeCells #[.int .u8 0] n).toList 5 HROW0.out (bc l) (by rw [HBL.out]; simp) (fun _ => ⟨rfl, _, rfl, HSRC.out⟩) (by rw [HBL.out, Array.length_toList]; exact Nat.le_of_eq ((Nat.zero_add n).trans HCS.out.symm)) (bc_one l) (w.heap.size + 1) _ (Below.refl _ _) (Nat.le_refl _) ?_; intro w2 hrow hb3; have HROW := hid hrow; have HB3 := hid hb3; have HTOK2 := hid (HTOK.out.below hb3 (Nat.lt_succ_self _)); clear hrow hb3))
  | ((with_reducible refine at_op ⟨_, .store 373 (.tmp 2) (.tmp 11), _, _, _, _⟩ ?_); refine wpList_store_blk rfl 373 (.tmp 2) (.tmp 11) rfl w.heap.size 0 rfl [.slice (some ⟨w.heap.size + 1, 0, none⟩) n n, .int .i64 0, .int .i64 0] rfl (by intro u hu; simp at hu; rcases hu with rfl | rfl | rfl <;> rfl) 373 _ HTOK2.out (by simp) (by kernel_rfl) ?_; intro w4 hT4 hg4 hs4)
  | fail)
 rw [put_all _ _ (by simp)] at hT4
 refine bodyPost_ret (results_cell_row rfl _ _ w.heap.size 373 _ (0, 0) _ rfl hT4 Tryz.underlying373 rfl (by kernel_rfl)) rfl ?_
 have hsp : splice (madeCells #[.int .u8 0] n).toList 0 (bc l) = bc l := by
  unfold splice
  have h1 : (madeCells #[Value.int .u8 0] n).toList.length = n := by rw [Array.length_toList]; exact HCS.out
  rw [HBL.out, List.take_zero, List.nil_append, List.drop_of_length_le (by omega), List.append_nil]
 have hrow := HROW.out.out
 rw [hsp] at hrow
 have hg := (hg4.block (w.heap.size + 1) (Array.getElem?_eq_some_iff.1 hrow).1 (by simp)).trans hrow
 refine ⟨some ⟨w.heap.size + 1, 0, none⟩, n, rfl, ⟨by rw [HBL.out]; omega, Or.inr ⟨w.heap.size + 1, n, (bc l).toArray, rfl, Nat.le_refl _, hg, Nat.le_refl _, by unfold maxLen; omega, by rw [List.size_toArray, HBL.out]; omega, ?_⟩⟩, below_gb (HB2.out.trans (HB3.out.mono (by omega))) hg4 (by have := HB2.out.size; have := HB3.out.size; omega) (Nat.le_refl _)⟩
 rw [List.take_of_length_le (by rw [HBL.out]; omega)]
end Go.Proofs.YtendlmdmbkcdnaaGreatDoor.sq
namespace Go.Proofs.YtendlmdmbkcdnaaGreatDoor.sq
open Go.RowKit oc
set_option maxRecDepth 100000
def zeros : List Value -> Bool
 | [] => true
 | .int .i64 (.ofNat 0) :: l => zeros l
 | _ => false
theorem zeros_at : ∀ (l : List Value) (k : Nat), zeros l = true -> k < l.length -> l[k]? = some (.int .i64 0)
 | [], k, _, h => by simp at h
 | v :: l, k, h, hk => by
  unfold zeros at h
  split at h
  ·rename_i e
   cases e
  ·rename_i l' e
   injection e with e1 e2
   subst e1 e2
   cases k with
   | zero => rfl
   | succ k => exact zeros_at _ k h (by simpa using hk)
  ·cases h
theorem infoF : (Tryz.prog.info? 401).map (fun i => i.zero.map fun z => (z.cells.toList.length, zeros (z.cells.toList.drop 1))) = some (some (5121, true)) := by kernel_rfl
theorem fin_new (w : World) (cs : Array Value) (A : Option Addr) (c : Nat) (T : List UInt8) (h1 : cs.size = 5121) (h2 : cs[0]? = some (.slice A T.length c)) (h3 : ∀ k, 1 <= k -> k < 5121 -> cs[k]? = some (.int .i64 0)) :
  FinAt (w.alloc (.cells cs 401)) w.heap.size A c T ⟨fun _ => 0, fun _ => 0⟩ :=
 ⟨cs, Blk.new w _ _, h1, h2, fun k hk => h3 _ (by omega) (by omega), fun k hk => h3 _ (by omega) (by omega)⟩
theorem infoT : (Tryz.prog.info? 373).map (fun i => (i.zero, i.size, i.bytes)) = some (some (.agg #[.slice none 0 0, .int .i64 0, .int .i64 0]), 3, 40) := by kernel_rfl
def TokV (w : World) (B : Nat) (vals : List Value) : Tok -> Prop
 | .lit l => ∃ A c, vals = [.slice A l.length c, .int .i64 0, .int .i64 0] /\ w.ownsRow B 5 1 (.slice A l.length c) l.length (bc l)
 | .mat d n => vals = (tokC d n).toList
def TokL (w : World) (B : Nat) : List Tok -> List Value -> Prop
 | [], xs => xs = []
 | t :: ts, xs => ∃ a r, xs = a ++ r /\ TokV w B a t /\ TokL w B ts r
def Row (B : Nat) (w : World) (v : Value) (tks : List Tok) : Prop := ∃ xs, w.ownsRow B 373 3 v tks.length xs /\ TokL w B tks xs
theorem TokV.len {w : World} {B : Nat} {vals : List Value} : ∀ {t : Tok}, TokV w B vals t -> vals.length = 3
 | .lit l, h => by obtain ⟨A, c, rfl, _⟩ := h; rfl
 | .mat d n, h => by rw [h]; rfl
theorem own_keepH' {w w' : World} {B n z : Nat} {e : TypeId} {v : Value} {xs : List Value} (h : w.ownsRow B e z v n xs) (hk : ∀ g, v.ownBlock = some g -> w'.heap[g]? = w.heap[g]?) : w'.ownsRow B e z v n xs := by
 refine ⟨h.1, ?_⟩
 rcases h.2 with h1 | ⟨g, cap, cur, rfl, h2, h3, h4⟩
 ·exact Or.inl h1
 ·exact Or.inr ⟨g, cap, cur, rfl, h2, (hk g rfl).trans h3, h4⟩
theorem TokV.keep {w w' : World} {B : Nat} {vals : List Value} (hk : ∀ g, B <= g -> g < w.heap.size -> (∃ cs t, w.heap[g]? = some (.cells cs t (0, 0)) /\ t = 5) -> w'.heap[g]? = w.heap[g]?) : ∀ {t : Tok}, TokV w B vals t -> TokV w' B vals t
 | .lit l, h => by
  obtain ⟨A, c, e, ho⟩ := h
  refine ⟨A, c, e, own_keepH' ho fun g hg => ?_⟩
  rcases ho.2 with ⟨h1, h2⟩ | ⟨g', cap, cur, h1, h2, h3, _⟩
  ·rw [h1] at hg; simp [Value.ownBlock] at hg
  ·rw [h1] at hg
   have e2 : g' = g := by simpa [Value.ownBlock] using hg
   subst e2
   exact hk g' h2 (Array.getElem?_eq_some_iff.1 h3).1 ⟨_, _, h3, rfl⟩
 | .mat d n, h => h
theorem TokL.keep {w w' : World} {B : Nat} (hk : ∀ g, B <= g -> g < w.heap.size -> (∃ cs t, w.heap[g]? = some (.cells cs t (0, 0)) /\ t = 5) -> w'.heap[g]? = w.heap[g]?) : ∀ {ts : List Tok} {xs : List Value}, TokL w B ts xs -> TokL w' B ts xs
 | [], _, h => h
 | _ :: _, _, h => by
  obtain ⟨a, r, e, h1, h2⟩ := h
  exact ⟨a, r, e, h1.keep hk, TokL.keep hk h2⟩
theorem TokL.snoc {w : World} {B : Nat} {t : Tok} {a : List Value} (ha : TokV w B a t) : ∀ {ts : List Tok} {xs : List Value}, TokL w B ts xs -> TokL w B (ts ++ [t]) (xs ++ a)
 | [], xs, h => by
  have : xs = [] := h
  subst this
  exact ⟨a, [], by simp, ha, rfl⟩
 | _ :: _, _, h => by
  obtain ⟨b, r, rfl, h1, h2⟩ := h
  exact ⟨b, r ++ a, by simp, h1, h2.snoc ha⟩
theorem Row.nil (B : Nat) (w : World) : Row B w (.slice none 0 0) [] := ⟨[], World.ownsRow_nil _ _ _ _, rfl⟩
theorem Row.slice {B : Nat} {w : World} {v : Value} {tks : List Tok} (h : Row B w v tks) : ∃ A c, v = .slice A tks.length c := by
 obtain ⟨xs, h1, _⟩ := h
 exact own_slice h1
theorem Row.gb {B g : Nat} {w w' : World} {v : Value} {tks : List Tok} (h : Row B w v tks) (hg : w.grownBy w' (some g)) (hlt : g < B) : Row B w' v tks := by
 obtain ⟨xs, h1, h2⟩ := h
 exact ⟨xs, h1.kept hg (Or.inr (fun e => by have := (h1.lt g e).1; omega)), h2.keep fun k h3 h4 _ => hg.block k h4 (fun e => by injection e with e; omega)⟩
theorem Row.below {B : Nat} {w w' : World} {v : Value} {tks : List Tok} (h : Row B w v tks) (hb : Below w.heap.size w w') : Row B w' v tks := by
 obtain ⟨xs, h1, h2⟩ := h
 exact ⟨xs, own_below h1 hb, h2.keep fun k _ h4 _ => hb.block k h4⟩
theorem Row.push {B : Nat} {w w' : World} {v v' : Value} {tks : List Tok} {xs a : List Value} {t : Tok} (h1 : w.ownsRow B 373 3 v tks.length xs) (h2 : TokL w B tks xs) (ha : TokV w B a t) (h3 : w'.ownsRow B 373 3 v' (tks.length + 1) (xs ++ a)) (hg : w.grownBy w' v.ownBlock) : Row B w' v' (tks ++ [t]) := by
 have hk : ∀ g, B <= g -> g < w.heap.size -> (∃ cs t, w.heap[g]? = some (.cells cs t (0, 0)) /\ t = 5) -> w'.heap[g]? = w.heap[g]? := fun g _ hlt ⟨cs, t, hc, ht⟩ => by
  refine hg.block g hlt (fun e => ?_)
  rcases h1.2 with ⟨e1, _⟩ | ⟨g', cap, cur, e1, _, e3, _⟩
  ·rw [e1] at e; simp [Value.ownBlock] at e
  ·rw [e1] at e
   have e2 : g = g' := by simpa [Value.ownBlock] using e
   subst e2
   rw [hc] at e3
   injection e3 with e3
   injection e3 with _ e4
   rw [ht] at e4
   exact absurd e4 (by decide)
 refine ⟨xs ++ a, by rw [List.length_append]; exact h3, ?_⟩
 exact (h2.keep hk).snoc (ha.keep hk)
theorem reads3 {w : World} {g : Nat} {t : TypeId} {a b c : Value} (h : Blk w g t #[a, b, c]) : Reads w w.heap.size 3 (some ⟨g, 0, none⟩) 1 [a, b, c] := by
 refine ⟨rfl, fun _ => ⟨_, rfl, h.lt, fun j u hu => ?_⟩⟩
 rw [add_flat, Nat.zero_add, h.cell, <- Array.getElem?_toList]
 exact hu
theorem rb_sub {w : World} {b off : Nat} {T : List UInt8} (h : RB w (some ⟨b, off, none⟩) T) (i n : Nat) : RB w (some ⟨b, off + i, none⟩) ((T.drop i).take n) := by
 intro h0
 rw [List.length_take, List.length_drop] at h0
 obtain ⟨b', off', e, hb, hc⟩ := h (by omega)
 simp only [Option.some.injEq, Addr.mk.injEq, and_true] at e
 obtain ⟨rfl, rfl⟩ := e
 refine ⟨b, off + i, rfl, hb, fun j hj => ?_⟩
 rw [List.length_take, List.length_drop] at hj
 rw [Nat.add_assoc, hc (i + j) (by omega)]
 simp [List.getElem_take, List.getElem_drop]
theorem FinAt.gbr {w w' : World} {g : Nat} {A : Option Addr} {c : Nat} {T : List UInt8} {F : Fi} {row : Option Nat} (h : FinAt w g A c T F) (hg : w.grownBy w' row) (hne : row ≠ some g) : FinAt w' g A c T F := by
 obtain ⟨cs, hB, r⟩ := h
 exact ⟨cs, hB.grown hg (Ne.symm hne), r⟩
theorem pushes {B B0 : Nat} (hB0 : B0 <= B) {w W w' : World} {v v' : Value} {tks : List Tok} {xs a : List Value} {t : Tok} {G : Nat} {A : Option Addr} {c : Nat} {T : List UInt8} {F : Fi} {tb : Nat} {tc : Array Value} (hW : Below B0 w W /\ B <= W.heap.size) (hF : FinAt W G A c T F) (hG : G < B) (hT : Blk W tb 373 tc) (hv : ∀ g, v.ownBlock = some g -> g ≠ tb)
  (h1 : W.ownsRow B 373 3 v tks.length xs) (h2 : TokL W B tks xs) (ha : TokV W B a t) (h3 : w'.ownsRow B 373 3 v' (tks.length + 1) (xs ++ a)) (hg : W.grownBy w' v.ownBlock) (hd : v'.ownBlock = v.ownBlock \/ v'.ownBlock = some W.heap.size) :
  Row B w' v' (tks ++ [t]) /\ FinAt w' G A c T F /\ Blk w' tb 373 tc /\ (Below B0 w w' /\ B <= w'.heap.size) /\ ∀ g, v'.ownBlock = some g -> g ≠ tb := by
 refine ⟨Row.push h1 h2 ha h3 hg, hF.gbr hg (fun e => by have := (h1.lt G e).1; omega), hT.grown hg (fun e => hv tb e.symm rfl), ⟨hW.1.grown hg (Nat.le_trans hB0 hW.2) (fun g e => Nat.le_trans hB0 (h1.lt g e).1), Nat.le_trans hW.2 hg.size⟩, fun g e => ?_⟩
 rcases hd with hd | hd
 ·exact hv g (by rw [<- hd]; exact e)
 ·rw [hd] at e
  injection e with e
  have := hT.lt
  omega
end Go.Proofs.YtendlmdmbkcdnaaGreatDoor.sq
